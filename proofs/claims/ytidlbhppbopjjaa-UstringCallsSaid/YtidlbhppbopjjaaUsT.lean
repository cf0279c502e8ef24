/-
What the second machine comes to at some functions (printed by a program of ours).
-/
import Derived.Test.YtidlbhppbopjjaaUsL
import Derived.KernelRfl
namespace Go.Proofs.Ytidlbhppbopjjaa.Ax
open Go.Ax
set_option linter.unusedVariables false
set_option maxRecDepth 100000

-- size 5
theorem bad_tree {β : Type} (s : List UInt8) (kk : KV → KHeap → Option β) :
    kBody (kFn F (fun _ => none) RR DD) badLT RR f19 [.str s] [] kk =
  selK (cd (s = s ∧ 0 = 0 ∧ s.length ≤ 4611686018427387904))
   (selK (eqI (bad s) (-1))
    (kk (.int .i64 (-1)) [])
    (kk (.int .i64 (bad s)) []))
   (none) := by kernel_rfl

-- live [3, 8], behind [3]
noncomputable def count_bodyK {β : Type} (m : Nat) (fr : List KV) (h : KHeap) (k : KCont β) : Option β := kLoopM 0 f18_M0 (fun fr h k => kCode (kFn F (fun _ => none) RR DD) noYK (fun _ => none) RR false 0 f18_L0 fr h k) m fr h (fun e fr h => forceC (maskK f18_O0 fr) fun fr => k e fr h)
-- size 3
theorem count_body {β : Type} (m : Nat) (s : List UInt8) (n : Int) (p : Nat) (k : KCont β) :
    count_bodyK (m + 1) (f18_S0 (.int .i64 n) (.ptr 0 0)) [.iter s p] k =
  selK (Nat.blt p s.length)
   (count_bodyK m (f18_S0 (.int .i64 (wr .i64 (n + 1))) (.ptr 0 0)) [.iter s (p + (decW s p))] k)
   (k (.exit 0) (f18_E0 (.int .i64 n)) [.iter s p]) := by kernel_rfl

-- size 58
noncomputable def point_tree_s12 {β : Type} (s : List UInt8) (at' : Int) (b0 : UInt8) (kk : KV → KHeap → Option β) : Option β :=
  selK (leI 240 (wr .i64 (b0.toNat : Int)))
   (selK (ltI (wr .i64 (b0.toNat : Int)) 248)
    (selK (leI ((s.length : Nat) : Int) (wr .i64 (at' + 1)))
     (kk (.tuple [.int .i64 0, .int .i64 0]) [])
     (selK (leI 0 (wr .i64 (at' + 1)))
      (optK (s[((wr .i64 (at' + 1))).toNat]?) fun b10 =>
       (selK (ltI (b10.toNat : Int) 128)
        (kk (.tuple [.int .i64 0, .int .i64 0]) [])
        (selK (leI 0 (wr .i64 (at' + 1)))
         (optK (s[((wr .i64 (at' + 1))).toNat]?) fun b11 =>
          (selK (ltI 191 (b11.toNat : Int))
           (kk (.tuple [.int .i64 0, .int .i64 0]) [])
           (selK (leI 0 (wr .i64 (at' + 1)))
            (optK (s[((wr .i64 (at' + 1))).toNat]?) fun b12 =>
             (selK (leI ((s.length : Nat) : Int) (wr .i64 (at' + 2)))
              (kk (.tuple [.int .i64 0, .int .i64 0]) [])
              (selK (leI 0 (wr .i64 (at' + 2)))
               (optK (s[((wr .i64 (at' + 2))).toNat]?) fun b13 =>
                (selK (ltI (b13.toNat : Int) 128)
                 (kk (.tuple [.int .i64 0, .int .i64 0]) [])
                 (selK (leI 0 (wr .i64 (at' + 2)))
                  (optK (s[((wr .i64 (at' + 2))).toNat]?) fun b14 =>
                   (selK (ltI 191 (b14.toNat : Int))
                    (kk (.tuple [.int .i64 0, .int .i64 0]) [])
                    (selK (leI 0 (wr .i64 (at' + 2)))
                     (optK (s[((wr .i64 (at' + 2))).toNat]?) fun b15 =>
                      (selK (leI ((s.length : Nat) : Int) (wr .i64 (at' + 3)))
                       (kk (.tuple [.int .i64 0, .int .i64 0]) [])
                       (selK (leI 0 (wr .i64 (at' + 3)))
                        (optK (s[((wr .i64 (at' + 3))).toNat]?) fun b16 =>
                         (selK (ltI (b16.toNat : Int) 128)
                          (kk (.tuple [.int .i64 0, .int .i64 0]) [])
                          (selK (leI 0 (wr .i64 (at' + 3)))
                           (optK (s[((wr .i64 (at' + 3))).toNat]?) fun b17 =>
                            (selK (ltI 191 (b17.toNat : Int))
                             (kk (.tuple [.int .i64 0, .int .i64 0]) [])
                             (selK (leI 0 (wr .i64 (at' + 3)))
                              (optK (s[((wr .i64 (at' + 3))).toNat]?) fun b18 =>
                               (selK (ltI (wr .i64 ((wr .i64 (64 * (wr .i64 ((wr .i64 (64 * (wr .i64 ((wr .i64 (64 * (wr .i64 ((wr .i64 (b0.toNat : Int)) - 240)))) + (wr .i64 ((wr .i64 (b12.toNat : Int)) - 128)))))) + (wr .i64 ((wr .i64 (b15.toNat : Int)) - 128)))))) + (wr .i64 ((wr .i64 (b18.toNat : Int)) - 128)))) 65536)
                                (kk (.tuple [.int .i64 0, .int .i64 0]) [])
                                (selK (ltI 1114111 (wr .i64 ((wr .i64 (64 * (wr .i64 ((wr .i64 (64 * (wr .i64 ((wr .i64 (64 * (wr .i64 ((wr .i64 (b0.toNat : Int)) - 240)))) + (wr .i64 ((wr .i64 (b12.toNat : Int)) - 128)))))) + (wr .i64 ((wr .i64 (b15.toNat : Int)) - 128)))))) + (wr .i64 ((wr .i64 (b18.toNat : Int)) - 128)))))
                                 (kk (.tuple [.int .i64 0, .int .i64 0]) [])
                                 (selK (leI 55296 (wr .i64 ((wr .i64 (64 * (wr .i64 ((wr .i64 (64 * (wr .i64 ((wr .i64 (64 * (wr .i64 ((wr .i64 (b0.toNat : Int)) - 240)))) + (wr .i64 ((wr .i64 (b12.toNat : Int)) - 128)))))) + (wr .i64 ((wr .i64 (b15.toNat : Int)) - 128)))))) + (wr .i64 ((wr .i64 (b18.toNat : Int)) - 128)))))
                                  (selK (leI (wr .i64 ((wr .i64 (64 * (wr .i64 ((wr .i64 (64 * (wr .i64 ((wr .i64 (64 * (wr .i64 ((wr .i64 (b0.toNat : Int)) - 240)))) + (wr .i64 ((wr .i64 (b12.toNat : Int)) - 128)))))) + (wr .i64 ((wr .i64 (b15.toNat : Int)) - 128)))))) + (wr .i64 ((wr .i64 (b18.toNat : Int)) - 128)))) 57343)
                                   (kk (.tuple [.int .i64 0, .int .i64 0]) [])
                                   (kk (.tuple [.int .i64 (wr .i64 ((wr .i64 (64 * (wr .i64 ((wr .i64 (64 * (wr .i64 ((wr .i64 (64 * (wr .i64 ((wr .i64 (b0.toNat : Int)) - 240)))) + (wr .i64 ((wr .i64 (b12.toNat : Int)) - 128)))))) + (wr .i64 ((wr .i64 (b15.toNat : Int)) - 128)))))) + (wr .i64 ((wr .i64 (b18.toNat : Int)) - 128)))), .int .i64 4]) []))
                                  (kk (.tuple [.int .i64 (wr .i64 ((wr .i64 (64 * (wr .i64 ((wr .i64 (64 * (wr .i64 ((wr .i64 (64 * (wr .i64 ((wr .i64 (b0.toNat : Int)) - 240)))) + (wr .i64 ((wr .i64 (b12.toNat : Int)) - 128)))))) + (wr .i64 ((wr .i64 (b15.toNat : Int)) - 128)))))) + (wr .i64 ((wr .i64 (b18.toNat : Int)) - 128)))), .int .i64 4]) [])))))
                              (none))))
                           (none))))
                        (none))))
                     (none))))
                  (none))))
               (none))))
            (none))))
         (none))))
      (none)))
    (kk (.tuple [.int .i64 0, .int .i64 0]) []))
   (kk (.tuple [.int .i64 0, .int .i64 0]) [])
-- size 43
noncomputable def point_tree_s13 {β : Type} (s : List UInt8) (at' : Int) (b0 : UInt8) (kk : KV → KHeap → Option β) : Option β :=
  selK (leI 224 (wr .i64 (b0.toNat : Int)))
   (selK (ltI (wr .i64 (b0.toNat : Int)) 240)
    (selK (leI ((s.length : Nat) : Int) (wr .i64 (at' + 1)))
     (kk (.tuple [.int .i64 0, .int .i64 0]) [])
     (selK (leI 0 (wr .i64 (at' + 1)))
      (optK (s[((wr .i64 (at' + 1))).toNat]?) fun b4 =>
       (selK (ltI (b4.toNat : Int) 128)
        (kk (.tuple [.int .i64 0, .int .i64 0]) [])
        (selK (leI 0 (wr .i64 (at' + 1)))
         (optK (s[((wr .i64 (at' + 1))).toNat]?) fun b5 =>
          (selK (ltI 191 (b5.toNat : Int))
           (kk (.tuple [.int .i64 0, .int .i64 0]) [])
           (selK (leI 0 (wr .i64 (at' + 1)))
            (optK (s[((wr .i64 (at' + 1))).toNat]?) fun b6 =>
             (selK (leI ((s.length : Nat) : Int) (wr .i64 (at' + 2)))
              (kk (.tuple [.int .i64 0, .int .i64 0]) [])
              (selK (leI 0 (wr .i64 (at' + 2)))
               (optK (s[((wr .i64 (at' + 2))).toNat]?) fun b7 =>
                (selK (ltI (b7.toNat : Int) 128)
                 (kk (.tuple [.int .i64 0, .int .i64 0]) [])
                 (selK (leI 0 (wr .i64 (at' + 2)))
                  (optK (s[((wr .i64 (at' + 2))).toNat]?) fun b8 =>
                   (selK (ltI 191 (b8.toNat : Int))
                    (kk (.tuple [.int .i64 0, .int .i64 0]) [])
                    (selK (leI 0 (wr .i64 (at' + 2)))
                     (optK (s[((wr .i64 (at' + 2))).toNat]?) fun b9 =>
                      (selK (ltI (wr .i64 ((wr .i64 (64 * (wr .i64 ((wr .i64 (64 * (wr .i64 ((wr .i64 (b0.toNat : Int)) - 224)))) + (wr .i64 ((wr .i64 (b6.toNat : Int)) - 128)))))) + (wr .i64 ((wr .i64 (b9.toNat : Int)) - 128)))) 2048)
                       (kk (.tuple [.int .i64 0, .int .i64 0]) [])
                       (selK (ltI 1114111 (wr .i64 ((wr .i64 (64 * (wr .i64 ((wr .i64 (64 * (wr .i64 ((wr .i64 (b0.toNat : Int)) - 224)))) + (wr .i64 ((wr .i64 (b6.toNat : Int)) - 128)))))) + (wr .i64 ((wr .i64 (b9.toNat : Int)) - 128)))))
                        (kk (.tuple [.int .i64 0, .int .i64 0]) [])
                        (selK (leI 55296 (wr .i64 ((wr .i64 (64 * (wr .i64 ((wr .i64 (64 * (wr .i64 ((wr .i64 (b0.toNat : Int)) - 224)))) + (wr .i64 ((wr .i64 (b6.toNat : Int)) - 128)))))) + (wr .i64 ((wr .i64 (b9.toNat : Int)) - 128)))))
                         (selK (leI (wr .i64 ((wr .i64 (64 * (wr .i64 ((wr .i64 (64 * (wr .i64 ((wr .i64 (b0.toNat : Int)) - 224)))) + (wr .i64 ((wr .i64 (b6.toNat : Int)) - 128)))))) + (wr .i64 ((wr .i64 (b9.toNat : Int)) - 128)))) 57343)
                          (kk (.tuple [.int .i64 0, .int .i64 0]) [])
                          (kk (.tuple [.int .i64 (wr .i64 ((wr .i64 (64 * (wr .i64 ((wr .i64 (64 * (wr .i64 ((wr .i64 (b0.toNat : Int)) - 224)))) + (wr .i64 ((wr .i64 (b6.toNat : Int)) - 128)))))) + (wr .i64 ((wr .i64 (b9.toNat : Int)) - 128)))), .int .i64 3]) []))
                         (kk (.tuple [.int .i64 (wr .i64 ((wr .i64 (64 * (wr .i64 ((wr .i64 (64 * (wr .i64 ((wr .i64 (b0.toNat : Int)) - 224)))) + (wr .i64 ((wr .i64 (b6.toNat : Int)) - 128)))))) + (wr .i64 ((wr .i64 (b9.toNat : Int)) - 128)))), .int .i64 3]) [])))))
                     (none))))
                  (none))))
               (none))))
            (none))))
         (none))))
      (none)))
    (point_tree_s12 s at' b0 kk))
   (point_tree_s12 s at' b0 kk)
-- size 33
theorem point_tree {β : Type} (s : List UInt8) (at' : Int) (kk : KV → KHeap → Option β) :
    kBody (kFn F (fun _ => none) RR DD) (fun _ => none) RR f59 [.str s, .int .i64 at'] [] kk =
  selK (leI 0 at')
   (optK (s[(at').toNat]?) fun b0 =>
    (selK (ltI (wr .i64 (b0.toNat : Int)) 128)
     (kk (.tuple [.int .i64 (wr .i64 (b0.toNat : Int)), .int .i64 1]) [])
     (selK (leI 192 (wr .i64 (b0.toNat : Int)))
      (selK (ltI (wr .i64 (b0.toNat : Int)) 224)
       (selK (leI ((s.length : Nat) : Int) (wr .i64 (at' + 1)))
        (kk (.tuple [.int .i64 0, .int .i64 0]) [])
        (selK (leI 0 (wr .i64 (at' + 1)))
         (optK (s[((wr .i64 (at' + 1))).toNat]?) fun b1 =>
          (selK (ltI (b1.toNat : Int) 128)
           (kk (.tuple [.int .i64 0, .int .i64 0]) [])
           (selK (leI 0 (wr .i64 (at' + 1)))
            (optK (s[((wr .i64 (at' + 1))).toNat]?) fun b2 =>
             (selK (ltI 191 (b2.toNat : Int))
              (kk (.tuple [.int .i64 0, .int .i64 0]) [])
              (selK (leI 0 (wr .i64 (at' + 1)))
               (optK (s[((wr .i64 (at' + 1))).toNat]?) fun b3 =>
                (selK (ltI (wr .i64 ((wr .i64 (64 * (wr .i64 ((wr .i64 (b0.toNat : Int)) - 192)))) + (wr .i64 ((wr .i64 (b3.toNat : Int)) - 128)))) 128)
                 (kk (.tuple [.int .i64 0, .int .i64 0]) [])
                 (selK (ltI 1114111 (wr .i64 ((wr .i64 (64 * (wr .i64 ((wr .i64 (b0.toNat : Int)) - 192)))) + (wr .i64 ((wr .i64 (b3.toNat : Int)) - 128)))))
                  (kk (.tuple [.int .i64 0, .int .i64 0]) [])
                  (selK (leI 55296 (wr .i64 ((wr .i64 (64 * (wr .i64 ((wr .i64 (b0.toNat : Int)) - 192)))) + (wr .i64 ((wr .i64 (b3.toNat : Int)) - 128)))))
                   (selK (leI (wr .i64 ((wr .i64 (64 * (wr .i64 ((wr .i64 (b0.toNat : Int)) - 192)))) + (wr .i64 ((wr .i64 (b3.toNat : Int)) - 128)))) 57343)
                    (kk (.tuple [.int .i64 0, .int .i64 0]) [])
                    (kk (.tuple [.int .i64 (wr .i64 ((wr .i64 (64 * (wr .i64 ((wr .i64 (b0.toNat : Int)) - 192)))) + (wr .i64 ((wr .i64 (b3.toNat : Int)) - 128)))), .int .i64 2]) []))
                   (kk (.tuple [.int .i64 (wr .i64 ((wr .i64 (64 * (wr .i64 ((wr .i64 (b0.toNat : Int)) - 192)))) + (wr .i64 ((wr .i64 (b3.toNat : Int)) - 128)))), .int .i64 2]) [])))))
               (none))))
            (none))))
         (none)))
       (point_tree_s13 s at' b0 kk))
      (point_tree_s13 s at' b0 kk))))
   (none) := by kernel_rfl

-- live [0, 1, 5], behind [5]
noncomputable def times_bodyK {β : Type} (m : Nat) (fr : List KV) (h : KHeap) (k : KCont β) : Option β := kLoopM 0 f42_M0 (fun fr h k => kCode (kFn F (fun _ => none) RR DD) noYK (fun _ => none) RR false 0 f42_L0 fr h k) m fr h (fun e fr h => forceC (maskK f42_O0 fr) fun fr => k e fr h)
-- size 11
theorem times_body {β : Type} (m : Nat) (s o : List UInt8) (n : Int) (k : KCont β) :
    times_bodyK (m + 1) (f42_S0 (.str s) (.int .i64 n) (.str o)) [] k =
  selK (ltI 0 n)
   (selK (eqI (remI n 2) 1)
    (selK (fitS o s)
     (selK (fitS s s)
      (times_bodyK m (f42_S0 (.str (s ++ s)) (.int .i64 (wr .i64 (quoI n 2))) (.str (o ++ s))) [] k)
      (none))
     (none))
    (selK (fitS s s)
     (times_bodyK m (f42_S0 (.str (s ++ s)) (.int .i64 (wr .i64 (quoI n 2))) (.str o)) [] k)
     (none)))
   (k (.exit 0) (f42_E0 (.str o)) []) := by kernel_rfl

end Go.Proofs.Ytidlbhppbopjjaa.Ax

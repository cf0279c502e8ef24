/-
What the second machine comes to at some functions (printed by a program of ours).
-/
import Derived.Test.YtidlbhppbopjjaaPartC0
import Derived.KernelRfl
namespace Go.Proofs.Ytidlbhppbopjjaa.Ax
open Go.Ax
set_option linter.unusedVariables false
set_option maxRecDepth 100000

-- live [0, 1, 5, 6, 7], behind [0, 4, 5, 6]
noncomputable def part0K {β : Type} (m : Nat) (fr : List KV) (h : KHeap) (k : KCont β) : Option β := kLoopM 1 f6_M0 (fun fr h k => kCode (kFn F TPar RR DD) (fun _ => none) RR 1 f6_L0 fr h k) m fr h (fun e fr h => forceC (maskK f6_O0 fr) fun fr => k e fr h)
-- size 5
noncomputable def part0_s3 {β : Type} (m : Nat) (s : List UInt8) (l : List (Row [.int .i64])) (all : List UInt8) (a i : Int) (r0 : Row [.int .i64]) (r1 : Row [.int .i64]) (k : KCont β) : Option β :=
  selK ((!eqS (subS s (a).toNat ((wr .i64 (a + r1.1))).toNat) (subS (subS s (a).toNat s.length) 0 (r0.1).toNat)))
   (k .ret (f6_E0 (.str s) (.bool false) (.ptr 1 0) (.str (all ++ (subS s (a).toNat ((wr .i64 (a + r1.1))).toNat)))) [.recs true [.int .i64] l, .cells [.str s, .int .i64 (wr .i64 (a + r1.1)), .int .i64 0]])
   (selK ((!eqS (subS s (a).toNat ((wr .i64 (a + r1.1))).toNat) []))
    (k .ret (f6_E0 (.str s) (.bool false) (.ptr 1 0) (.str (all ++ (subS s (a).toNat ((wr .i64 (a + r1.1))).toNat)))) [.recs true [.int .i64] l, .cells [.str s, .int .i64 (wr .i64 (a + r1.1)), .int .i64 0]])
    (k .ret (f6_E0 (.str s) (.bool false) (.ptr 1 0) (.str (all ++ (subS s (a).toNat ((wr .i64 (a + r1.1))).toNat)))) [.recs true [.int .i64] l, .cells [.str s, .int .i64 (wr .i64 (a + r1.1)), .int .i64 0]]))
-- size 5
noncomputable def part0_s8 {β : Type} (m : Nat) (s : List UInt8) (l : List (Row [.int .i64])) (all : List UInt8) (a i : Int) (k : KCont β) : Option β :=
  selK (inB a s.length)
   (selK ((!eqI (((subS s (a).toNat s.length).length : Nat) : Int) (wr .i64 ((((subS s (a).toNat s.length).length : Nat) : Int) - 0))))
    (k .ret (f6_E0 (.str s) (.bool false) (.ptr 1 0) (.str (all ++ []))) [.recs true [.int .i64] l, .cells [.str s, .int .i64 a, .int .i64 3]])
    (part0K m (f6_S0 (.str s) (.rslice 0 0 l.length 1) (.ptr 1 0) (.str (all ++ [])) (.int .i64 (wr .i64 (i + 1)))) [.recs true [.int .i64] l, .cells [.str s, .int .i64 a, .int .i64 3]] k))
   (none)
-- size 3
noncomputable def part0_s9 {β : Type} (m : Nat) (s : List UInt8) (l : List (Row [.int .i64])) (all : List UInt8) (a i : Int) (r0 : Row [.int .i64]) (k : KCont β) : Option β :=
  selK ((!eqS [] (subS (subS s (a).toNat s.length) 0 (r0.1).toNat)))
   (k .ret (f6_E0 (.str s) (.bool false) (.ptr 1 0) (.str (all ++ []))) [.recs true [.int .i64] l, .cells [.str s, .int .i64 a, .int .i64 3]])
   (part0_s8 m s l all a i k)
-- size 22
noncomputable def part0_s12 {β : Type} (m : Nat) (s : List UInt8) (l : List (Row [.int .i64])) (all : List UInt8) (a i : Int) (r0 : Row [.int .i64]) (k : KCont β) : Option β :=
  selK (fitS all [])
   (selK ((inR i l.length && true))
    (optK ((l)[(0 + (i).toNat)]?) fun r5 =>
     (selK (leI 0 r5.1)
      (selK ((inR i l.length && true))
       (optK ((l)[(0 + (i).toNat)]?) fun r6 =>
        (selK (leI r6.1 (((subS s (a).toNat s.length).length : Nat) : Int))
         (selK ((!eqS [] (subS (subS s (a).toNat s.length) 0 (r0.1).toNat)))
          (k .ret (f6_E0 (.str s) (.bool false) (.ptr 1 0) (.str (all ++ []))) [.recs true [.int .i64] l, .cells [.str s, .int .i64 a, .int .i64 3]])
          (selK ((inR i l.length && true))
           (optK ((l)[(0 + (i).toNat)]?) fun r7 =>
            (selK (inB r7.1 (subS s (a).toNat s.length).length)
             (selK ((!eqS [] (subS (subS s (a).toNat s.length) 0 (r7.1).toNat)))
              (k .ret (f6_E0 (.str s) (.bool false) (.ptr 1 0) (.str (all ++ []))) [.recs true [.int .i64] l, .cells [.str s, .int .i64 a, .int .i64 3]])
              (k .ret (f6_E0 (.str s) (.bool false) (.ptr 1 0) (.str (all ++ []))) [.recs true [.int .i64] l, .cells [.str s, .int .i64 a, .int .i64 3]]))
             (none)))
           (none)))
         (part0_s9 m s l all a i r0 k)))
       (none))
      (part0_s9 m s l all a i r0 k)))
    (none))
   (none)
-- size 5
noncomputable def part0_s17 {β : Type} (m : Nat) (s : List UInt8) (l : List (Row [.int .i64])) (all : List UInt8) (a i : Int) (r8 : Row [.int .i64]) (k : KCont β) : Option β :=
  selK ((!eqS (subS s (a).toNat ((wr .i64 (a + r8.1))).toNat) []))
   (k .ret (f6_E0 (.str s) (.bool false) (.ptr 1 0) (.str (all ++ (subS s (a).toNat ((wr .i64 (a + r8.1))).toNat)))) [.recs true [.int .i64] l, .cells [.str s, .int .i64 (wr .i64 (a + r8.1)), .int .i64 0]])
   (selK ((!eqS (subS s (a).toNat ((wr .i64 (a + r8.1))).toNat) []))
    (k .ret (f6_E0 (.str s) (.bool false) (.ptr 1 0) (.str (all ++ (subS s (a).toNat ((wr .i64 (a + r8.1))).toNat)))) [.recs true [.int .i64] l, .cells [.str s, .int .i64 (wr .i64 (a + r8.1)), .int .i64 0]])
    (k .ret (f6_E0 (.str s) (.bool false) (.ptr 1 0) (.str (all ++ (subS s (a).toNat ((wr .i64 (a + r8.1))).toNat)))) [.recs true [.int .i64] l, .cells [.str s, .int .i64 (wr .i64 (a + r8.1)), .int .i64 0]]))
-- size 20
noncomputable def part0_s24 {β : Type} (m : Nat) (s : List UInt8) (l : List (Row [.int .i64])) (all : List UInt8) (a i : Int) (k : KCont β) : Option β :=
  selK (fitS all [])
   (selK ((inR i l.length && true))
    (optK ((l)[(0 + (i).toNat)]?) fun r12 =>
     (selK (leI 0 r12.1)
      (selK ((inR i l.length && true))
       (optK ((l)[(0 + (i).toNat)]?) fun r13 =>
        (selK (leI r13.1 (((subS s (a).toNat s.length).length : Nat) : Int))
         (selK ((inR i l.length && true))
          (optK ((l)[(0 + (i).toNat)]?) fun r14 =>
           (selK (inB r14.1 (subS s (a).toNat s.length).length)
            (selK ((!eqS [] (subS (subS s (a).toNat s.length) 0 (r14.1).toNat)))
             (k .ret (f6_E0 (.str s) (.bool false) (.ptr 1 0) (.str (all ++ []))) [.recs true [.int .i64] l, .cells [.str s, .int .i64 a, .int .i64 3]])
             (k .ret (f6_E0 (.str s) (.bool false) (.ptr 1 0) (.str (all ++ []))) [.recs true [.int .i64] l, .cells [.str s, .int .i64 a, .int .i64 3]]))
            (none)))
          (none))
         (part0_s8 m s l all a i k)))
       (none))
      (part0_s8 m s l all a i k)))
    (none))
   (none)
-- size 37
noncomputable def part0_s25 {β : Type} (m : Nat) (s : List UInt8) (l : List (Row [.int .i64])) (all : List UInt8) (a i : Int) (k : KCont β) : Option β :=
  selK ((inR i l.length && true))
   (optK ((l)[(0 + (i).toNat)]?) fun r8 =>
    (selK (leI 0 r8.1)
     (selK (leI r8.1 (wr .i64 (((s.length : Nat) : Int) - a)))
      (selK (inB (wr .i64 (a + r8.1)) s.length)
       (selK (inB a ((wr .i64 (a + r8.1))).toNat)
        (selK (fitS all (subS s (a).toNat ((wr .i64 (a + r8.1))).toNat))
         (selK ((inR i l.length && true))
          (optK ((l)[(0 + (i).toNat)]?) fun r9 =>
           (selK (leI 0 r9.1)
            (selK ((inR i l.length && true))
             (optK ((l)[(0 + (i).toNat)]?) fun r10 =>
              (selK (leI r10.1 (((subS s (a).toNat s.length).length : Nat) : Int))
               (selK ((!eqS (subS s (a).toNat ((wr .i64 (a + r8.1))).toNat) []))
                (k .ret (f6_E0 (.str s) (.bool false) (.ptr 1 0) (.str (all ++ (subS s (a).toNat ((wr .i64 (a + r8.1))).toNat)))) [.recs true [.int .i64] l, .cells [.str s, .int .i64 (wr .i64 (a + r8.1)), .int .i64 0]])
                (selK ((inR i l.length && true))
                 (optK ((l)[(0 + (i).toNat)]?) fun r11 =>
                  (selK (inB r11.1 (subS s (a).toNat s.length).length)
                   (selK ((!eqS (subS s (a).toNat ((wr .i64 (a + r8.1))).toNat) (subS (subS s (a).toNat s.length) 0 (r11.1).toNat)))
                    (k .ret (f6_E0 (.str s) (.bool false) (.ptr 1 0) (.str (all ++ (subS s (a).toNat ((wr .i64 (a + r8.1))).toNat)))) [.recs true [.int .i64] l, .cells [.str s, .int .i64 (wr .i64 (a + r8.1)), .int .i64 0]])
                    (selK (inB (wr .i64 (a + r8.1)) s.length)
                     (selK ((!eqI (((subS s ((wr .i64 (a + r8.1))).toNat s.length).length : Nat) : Int) (wr .i64 ((((subS s (a).toNat s.length).length : Nat) : Int) - (((subS s (a).toNat ((wr .i64 (a + r8.1))).toNat).length : Nat) : Int)))))
                      (k .ret (f6_E0 (.str s) (.bool false) (.ptr 1 0) (.str (all ++ (subS s (a).toNat ((wr .i64 (a + r8.1))).toNat)))) [.recs true [.int .i64] l, .cells [.str s, .int .i64 (wr .i64 (a + r8.1)), .int .i64 0]])
                      (part0K m (f6_S0 (.str s) (.rslice 0 0 l.length 1) (.ptr 1 0) (.str (all ++ (subS s (a).toNat ((wr .i64 (a + r8.1))).toNat))) (.int .i64 (wr .i64 (i + 1)))) [.recs true [.int .i64] l, .cells [.str s, .int .i64 (wr .i64 (a + r8.1)), .int .i64 0]] k))
                     (none)))
                   (none)))
                 (none)))
               (part0_s17 m s l all a i r8 k)))
             (none))
            (part0_s17 m s l all a i r8 k)))
          (none))
         (none))
        (none))
       (none))
      (part0_s24 m s l all a i k))
     (part0_s24 m s l all a i k)))
   (none)
-- size 58
theorem part0 {β : Type} (m : Nat) (s : List UInt8) (l : List (Row [.int .i64])) (all : List UInt8) (a i : Int) (k : KCont β) :
    part0K (m + 1) (f6_S0 (.str s) (.rslice 0 0 l.length 1) (.ptr 1 0) (.str all) (.int .i64 i)) [.recs true [.int .i64] l, .cells [.str s, .int .i64 a, .int .i64 0]] k =
  selK (ltI i ((l.length : Nat) : Int))
   (selK (inB a s.length)
    (selK ((inR i l.length && true))
     (optK ((l)[(0 + (i).toNat)]?) fun r0 =>
      (selK (leI 0 r0.1)
       (selK (leI r0.1 (wr .i64 (((s.length : Nat) : Int) - a)))
        (selK (inB a s.length)
         (selK (inB r0.1 (subS s (a).toNat s.length).length)
          (selK (inB a s.length)
           (selK ((inR i l.length && true))
            (optK ((l)[(0 + (i).toNat)]?) fun r1 =>
             (selK (leI 0 r1.1)
              (selK (leI r1.1 (wr .i64 (((s.length : Nat) : Int) - a)))
               (selK (inB (wr .i64 (a + r1.1)) s.length)
                (selK (inB a ((wr .i64 (a + r1.1))).toNat)
                 (selK (fitS all (subS s (a).toNat ((wr .i64 (a + r1.1))).toNat))
                  (selK ((inR i l.length && true))
                   (optK ((l)[(0 + (i).toNat)]?) fun r2 =>
                    (selK (leI 0 r2.1)
                     (selK ((inR i l.length && true))
                      (optK ((l)[(0 + (i).toNat)]?) fun r3 =>
                       (selK (leI r3.1 (((subS s (a).toNat s.length).length : Nat) : Int))
                        (selK ((!eqS (subS s (a).toNat ((wr .i64 (a + r1.1))).toNat) (subS (subS s (a).toNat s.length) 0 (r0.1).toNat)))
                         (k .ret (f6_E0 (.str s) (.bool false) (.ptr 1 0) (.str (all ++ (subS s (a).toNat ((wr .i64 (a + r1.1))).toNat)))) [.recs true [.int .i64] l, .cells [.str s, .int .i64 (wr .i64 (a + r1.1)), .int .i64 0]])
                         (selK ((inR i l.length && true))
                          (optK ((l)[(0 + (i).toNat)]?) fun r4 =>
                           (selK (inB r4.1 (subS s (a).toNat s.length).length)
                            (selK ((!eqS (subS s (a).toNat ((wr .i64 (a + r1.1))).toNat) (subS (subS s (a).toNat s.length) 0 (r4.1).toNat)))
                             (k .ret (f6_E0 (.str s) (.bool false) (.ptr 1 0) (.str (all ++ (subS s (a).toNat ((wr .i64 (a + r1.1))).toNat)))) [.recs true [.int .i64] l, .cells [.str s, .int .i64 (wr .i64 (a + r1.1)), .int .i64 0]])
                             (selK (inB (wr .i64 (a + r1.1)) s.length)
                              (selK ((!eqI (((subS s ((wr .i64 (a + r1.1))).toNat s.length).length : Nat) : Int) (wr .i64 ((((subS s (a).toNat s.length).length : Nat) : Int) - (((subS s (a).toNat ((wr .i64 (a + r1.1))).toNat).length : Nat) : Int)))))
                               (k .ret (f6_E0 (.str s) (.bool false) (.ptr 1 0) (.str (all ++ (subS s (a).toNat ((wr .i64 (a + r1.1))).toNat)))) [.recs true [.int .i64] l, .cells [.str s, .int .i64 (wr .i64 (a + r1.1)), .int .i64 0]])
                               (part0K m (f6_S0 (.str s) (.rslice 0 0 l.length 1) (.ptr 1 0) (.str (all ++ (subS s (a).toNat ((wr .i64 (a + r1.1))).toNat))) (.int .i64 (wr .i64 (i + 1)))) [.recs true [.int .i64] l, .cells [.str s, .int .i64 (wr .i64 (a + r1.1)), .int .i64 0]] k))
                              (none)))
                            (none)))
                          (none)))
                        (part0_s3 m s l all a i r0 r1 k)))
                      (none))
                     (part0_s3 m s l all a i r0 r1 k)))
                   (none))
                  (none))
                 (none))
                (none))
               (part0_s12 m s l all a i r0 k))
              (part0_s12 m s l all a i r0 k)))
            (none))
           (none))
          (none))
         (none))
        (selK (inB a s.length)
         (part0_s25 m s l all a i k)
         (none)))
       (selK (inB a s.length)
        (part0_s25 m s l all a i k)
        (none))))
     (none))
    (none))
   (k (.exit 0) (f6_E0 (.str s) .junk (.ptr 1 0) (.str all)) [.recs true [.int .i64] l, .cells [.str s, .int .i64 a, .int .i64 0]]) := by kernel_rfl

-- live [0, 1, 5, 6, 7], behind [0, 4, 5, 6]
noncomputable def part3K {β : Type} (m : Nat) (fr : List KV) (h : KHeap) (k : KCont β) : Option β := kLoopM 1 f6_M0 (fun fr h k => kCode (kFn F TPar RR DD) (fun _ => none) RR 1 f6_L0 fr h k) m fr h (fun e fr h => forceC (maskK f6_O0 fr) fun fr => k e fr h)
-- size 19
theorem part3 {β : Type} (m : Nat) (s : List UInt8) (l : List (Row [.int .i64])) (all : List UInt8) (a i : Int) (k : KCont β) :
    part3K (m + 1) (f6_S0 (.str s) (.rslice 0 0 l.length 1) (.ptr 1 0) (.str all) (.int .i64 i)) [.recs true [.int .i64] l, .cells [.str s, .int .i64 a, .int .i64 3]] k =
  selK (ltI i ((l.length : Nat) : Int))
   (selK (inB a s.length)
    (selK ((inR i l.length && true))
     (optK ((l)[(0 + (i).toNat)]?) fun r0 =>
      (selK (inB a s.length)
       (selK ((inR i l.length && true))
        (optK ((l)[(0 + (i).toNat)]?) fun r1 =>
         (selK (fitS all [])
          (selK (inB a s.length)
           (selK ((!eqI (((subS s (a).toNat s.length).length : Nat) : Int) (wr .i64 ((((subS s (a).toNat s.length).length : Nat) : Int) - 0))))
            (k .ret (f6_E0 (.str s) (.bool false) (.ptr 1 0) (.str (all ++ []))) [.recs true [.int .i64] l, .cells [.str s, .int .i64 a, .int .i64 3]])
            (part3K m (f6_S0 (.str s) (.rslice 0 0 l.length 1) (.ptr 1 0) (.str (all ++ [])) (.int .i64 (wr .i64 (i + 1)))) [.recs true [.int .i64] l, .cells [.str s, .int .i64 a, .int .i64 3]] k))
           (none))
          (none)))
        (none))
       (none)))
     (none))
    (none))
   (k (.exit 0) (f6_E0 (.str s) .junk (.ptr 1 0) (.str all)) [.recs true [.int .i64] l, .cells [.str s, .int .i64 a, .int .i64 3]]) := by kernel_rfl

end Go.Proofs.Ytidlbhppbopjjaa.Ax

/-
Functions of the program, compiled for the abstract machine (by a program of ours).
-/
import Derived.Test.YtidlbhppbopjjaaAxD
import Derived.Test.YtidlbhppbopjjaaProg
import Derived.KernelRfl
namespace Go.Proofs.Ytidlbhppbopjjaa.Ax
open Go.Ax
set_option maxRecDepth 100000

/-! 3: polyglot/polyglotlaw01.OctetBack -/
def f3 : AFn := ⟨.seq (.ops [⟨(some 8), .mov (.c (.bool false)), none⟩])
  (.seq (.seq (.ops [⟨(some 12), .call (.c (.func (.func 12) [] [])) [], none⟩,
    ⟨(some 13), .not (.t 12), none⟩])
  (.cond (.t 13)
   (.seq (.ops [⟨(some 8), .mov (.c (.bool false)), none⟩])
   (.ret))
   (.skip)))
  (.seq (.ops [⟨(some 14), .mov (.t 2), none⟩,
    ⟨(some 15), .call (.c (.func (.func 13) [] [])) [(.t 14), (.c (.int .i64 9))], none⟩,
    ⟨(some 2), .mov (.t 15), none⟩])
  (.seq (.ops [⟨(some 9), .mov (.c (.int .u64 18446744073709551615)), none⟩])
  (.seq (.seq (.ops [⟨(some 16), .mov (.t 2), none⟩,
    ⟨(some 17), .bin .lss .none (.t 16) (.c (.int .i64 8)), none⟩])
  (.cond (.t 17)
   (.ops [⟨(some 18), .mov (.t 2), none⟩,
     ⟨(some 19), .bin .mul .none (.c (.int .i64 8)) (.t 18), none⟩,
     ⟨(some 20), .conv .u64 (.t 19), none⟩,
     ⟨(some 21), .bin .shl .none (.c (.int .u64 1)) (.t 20), none⟩,
     ⟨(some 22), .bin .sub .none (.t 21) (.c (.int .u64 1)), none⟩,
     ⟨(some 9), .mov (.t 22), none⟩])
   (.skip)))
  (.seq (.ops [⟨(some 23), .mov (.t 0), none⟩,
    ⟨(some 24), .mov (.t 2), none⟩,
    ⟨(some 25), .call (.c (.func (.func 14) [] [])) [(.t 23), (.t 24)], none⟩,
    ⟨(some 26), .mov (.t 1), none⟩,
    ⟨(some 27), .mov (.t 2), none⟩,
    ⟨(some 28), .call (.c (.func (.func 14) [] [])) [(.t 26), (.t 27)], none⟩,
    ⟨(some 10), .mov (.t 25), none⟩,
    ⟨(some 11), .mov (.t 28), none⟩])
  (.seq (.seq (.ops [⟨(some 29), .mov (.t 10), none⟩,
    ⟨(some 30), .lenS (.t 29), none⟩,
    ⟨(some 31), .mov (.t 2), none⟩,
    ⟨(some 32), .bin .neq .none (.t 30) (.t 31), none⟩,
    ⟨(some 33), .mov (.t 32), none⟩,
    ⟨(some 34), .mov (.t 10), (some (33, false))⟩,
    ⟨(some 35), .call (.c (.func (.func 15) [] [])) [(.t 34)], (some (33, false))⟩,
    ⟨(some 36), .mov (.t 0), (some (33, false))⟩,
    ⟨(some 37), .mov (.t 9), (some (33, false))⟩,
    ⟨(some 38), .bin .and .none (.t 36) (.t 37), (some (33, false))⟩,
    ⟨(some 39), .bin .neq .none (.t 35) (.t 38), (some (33, false))⟩,
    ⟨(some 40), .pick (.t 33) (.c (.bool true)) (.t 39), none⟩,
    ⟨(some 41), .mov (.t 40), none⟩,
    ⟨(some 42), .mov (.t 10), (some (41, false))⟩,
    ⟨(some 43), .mov (.t 11), (some (41, false))⟩,
    ⟨(some 44), .bin .lss .none (.t 42) (.t 43), (some (41, false))⟩,
    ⟨(some 45), .mov (.t 0), (some (41, false))⟩,
    ⟨(some 46), .mov (.t 9), (some (41, false))⟩,
    ⟨(some 47), .bin .and .none (.t 45) (.t 46), (some (41, false))⟩,
    ⟨(some 48), .mov (.t 1), (some (41, false))⟩,
    ⟨(some 49), .mov (.t 9), (some (41, false))⟩,
    ⟨(some 50), .bin .and .none (.t 48) (.t 49), (some (41, false))⟩,
    ⟨(some 51), .bin .lss .none (.t 47) (.t 50), (some (41, false))⟩,
    ⟨(some 52), .bin .neq .bool (.t 44) (.t 51), (some (41, false))⟩,
    ⟨(some 53), .pick (.t 41) (.c (.bool true)) (.t 52), none⟩,
    ⟨(some 54), .mov (.t 53), none⟩,
    ⟨(some 55), .mov (.t 10), (some (54, false))⟩,
    ⟨(some 56), .mov (.t 11), (some (54, false))⟩,
    ⟨(some 57), .bin .eql .none (.t 55) (.t 56), (some (54, false))⟩,
    ⟨(some 58), .mov (.t 0), (some (54, false))⟩,
    ⟨(some 59), .mov (.t 9), (some (54, false))⟩,
    ⟨(some 60), .bin .and .none (.t 58) (.t 59), (some (54, false))⟩,
    ⟨(some 61), .mov (.t 1), (some (54, false))⟩,
    ⟨(some 62), .mov (.t 9), (some (54, false))⟩,
    ⟨(some 63), .bin .and .none (.t 61) (.t 62), (some (54, false))⟩,
    ⟨(some 64), .bin .eql .none (.t 60) (.t 63), (some (54, false))⟩,
    ⟨(some 65), .bin .neq .bool (.t 57) (.t 64), (some (54, false))⟩,
    ⟨(some 66), .pick (.t 54) (.c (.bool true)) (.t 65), none⟩])
  (.cond (.t 66)
   (.seq (.ops [⟨(some 8), .mov (.c (.bool false)), none⟩])
   (.ret))
   (.skip)))
  (.seq (.ops [⟨(some 67), .mov (.t 3), none⟩,
    ⟨(some 68), .lenS (.t 67), none⟩,
    ⟨(some 69), .bin .gtr .none (.t 68) (.c (.int .i64 8)), none⟩,
    ⟨(some 70), .mov (.t 69), none⟩,
    ⟨(some 71), .mov (.t 3), (some (70, false))⟩,
    ⟨(some 72), .call (.c (.func (.func 15) [] [])) [(.t 71)], (some (70, false))⟩,
    ⟨(some 73), .mov (.t 3), (some (70, false))⟩,
    ⟨(some 74), .lenS (.t 73), (some (70, false))⟩,
    ⟨(some 75), .call (.c (.func (.func 14) [] [])) [(.t 72), (.t 74)], (some (70, false))⟩,
    ⟨(some 76), .mov (.t 3), (some (70, false))⟩,
    ⟨(some 77), .bin .eql .none (.t 75) (.t 76), (some (70, false))⟩,
    ⟨(some 78), .pick (.t 70) (.c (.bool true)) (.t 77), none⟩,
    ⟨(some 8), .mov (.t 78), none⟩])
  (.ret)))))))), 79, [.tmp 8]⟩
theorem f3_ok : compF Try.prog Try.f3 [] = some f3 := by kernel_rfl

/-! 4: polyglot/polyglotlaw03.UstringJoins -/
def f4 : AFn := ⟨.seq (.ops [⟨(some 4), .mov (.c (.bool false)), none⟩])
  (.seq (.seq (.ops [⟨(some 5), .call (.c (.func (.func 16) [] [])) [], none⟩,
    ⟨(some 6), .not (.t 5), none⟩])
  (.cond (.t 6)
   (.seq (.ops [⟨(some 4), .mov (.c (.bool false)), none⟩])
   (.ret))
   (.skip)))
  (.seq (.seq (.ops [⟨(some 7), .mov (.t 0), none⟩,
    ⟨(some 8), .lenS (.t 7), none⟩,
    ⟨(some 9), .bin .gtr .none (.t 8) (.c (.int .i64 1000)), none⟩,
    ⟨(some 10), .mov (.t 9), none⟩,
    ⟨(some 11), .mov (.t 1), (some (10, false))⟩,
    ⟨(some 12), .lenS (.t 11), (some (10, false))⟩,
    ⟨(some 13), .bin .gtr .none (.t 12) (.c (.int .i64 1000)), (some (10, false))⟩,
    ⟨(some 14), .pick (.t 10) (.c (.bool true)) (.t 13), none⟩])
  (.cond (.t 14)
   (.seq (.ops [⟨(some 4), .mov (.c (.bool true)), none⟩])
   (.ret))
   (.skip)))
  (.seq (.block 0 (.seq (.ops [⟨(some 16), .mov (.t 0), none⟩,
     ⟨(some 17), .call (.c (.func (.func 17) [] [])) [(.t 16)], none⟩,
     ⟨(some 18), .mov (.t 17), none⟩,
     ⟨(some 19), .mov (.t 1), (some (18, true))⟩,
     ⟨(some 20), .call (.c (.func (.func 17) [] [])) [(.t 19)], (some (18, true))⟩,
     ⟨(some 21), .pick (.t 18) (.t 20) (.c (.bool false)), none⟩,
     ⟨(some 15), .mov (.t 21), none⟩])
   (.cond (.t 15)
    (.seq (.ops [⟨(some 22), .mov (.t 0), none⟩,
      ⟨(some 23), .mov (.t 1), none⟩,
      ⟨(some 24), .bin .add .none (.t 22) (.t 23), none⟩,
      ⟨(some 25), .call (.c (.func (.func 17) [] [])) [(.t 24)], none⟩,
      ⟨(some 26), .mov (.t 25), none⟩,
      ⟨(some 27), .mov (.t 0), (some (26, true))⟩,
      ⟨(some 28), .mov (.t 1), (some (26, true))⟩,
      ⟨(some 29), .bin .add .none (.t 27) (.t 28), (some (26, true))⟩,
      ⟨(some 30), .call (.c (.func (.func 18) [] [])) [(.t 29)], (some (26, true))⟩,
      ⟨(some 31), .mov (.t 0), (some (26, true))⟩,
      ⟨(some 32), .call (.c (.func (.func 18) [] [])) [(.t 31)], (some (26, true))⟩,
      ⟨(some 33), .mov (.t 1), (some (26, true))⟩,
      ⟨(some 34), .call (.c (.func (.func 18) [] [])) [(.t 33)], (some (26, true))⟩,
      ⟨(some 35), .bin .add .none (.t 32) (.t 34), (some (26, true))⟩,
      ⟨(some 36), .bin .eql .none (.t 30) (.t 35), (some (26, true))⟩,
      ⟨(some 37), .pick (.t 26) (.t 36) (.c (.bool false)), none⟩,
      ⟨(some 4), .mov (.t 37), none⟩])
    (.ret))
    (.seq (.ops [⟨(some 39), .mov (.t 0), none⟩,
      ⟨(some 40), .call (.c (.func (.func 17) [] [])) [(.t 39)], none⟩,
      ⟨(some 38), .mov (.t 40), none⟩])
    (.cond (.t 38)
     (.seq (.ops [⟨(some 41), .mov (.t 0), none⟩,
       ⟨(some 42), .mov (.t 1), none⟩,
       ⟨(some 43), .bin .add .none (.t 41) (.t 42), none⟩,
       ⟨(some 44), .call (.c (.func (.func 17) [] [])) [(.t 43)], none⟩,
       ⟨(some 45), .not (.t 44), none⟩,
       ⟨(some 46), .mov (.t 45), none⟩,
       ⟨(some 47), .mov (.t 0), (some (46, true))⟩,
       ⟨(some 48), .mov (.t 1), (some (46, true))⟩,
       ⟨(some 49), .bin .add .none (.t 47) (.t 48), (some (46, true))⟩,
       ⟨(some 50), .call (.c (.func (.func 19) [] [])) [(.t 49)], (some (46, true))⟩,
       ⟨(some 51), .mov (.t 0), (some (46, true))⟩,
       ⟨(some 52), .lenS (.t 51), (some (46, true))⟩,
       ⟨(some 53), .mov (.t 1), (some (46, true))⟩,
       ⟨(some 54), .call (.c (.func (.func 19) [] [])) [(.t 53)], (some (46, true))⟩,
       ⟨(some 55), .bin .add .none (.t 52) (.t 54), (some (46, true))⟩,
       ⟨(some 56), .bin .eql .none (.t 50) (.t 55), (some (46, true))⟩,
       ⟨(some 57), .pick (.t 46) (.t 56) (.c (.bool false)), none⟩,
       ⟨(some 4), .mov (.t 57), none⟩])
     (.ret))
     (.skip))))))
  (.seq (.ops [⟨(some 58), .mov (.t 1), none⟩,
    ⟨(some 59), .mov (.t 0), none⟩,
    ⟨(some 60), .bin .add .none (.t 58) (.t 59), none⟩,
    ⟨(some 61), .call (.c (.func (.func 17) [] [])) [(.t 60)], none⟩,
    ⟨(some 62), .not (.t 61), none⟩,
    ⟨(some 63), .mov (.t 62), none⟩,
    ⟨(some 64), .mov (.t 1), (some (63, false))⟩,
    ⟨(some 65), .call (.c (.func (.func 17) [] [])) [(.t 64)], (some (63, false))⟩,
    ⟨(some 66), .not (.t 65), (some (63, false))⟩,
    ⟨(some 67), .pick (.t 63) (.c (.bool true)) (.t 66), none⟩,
    ⟨(some 4), .mov (.t 67), none⟩])
  (.ret))))), 68, [.tmp 4]⟩
theorem f4_ok : compF Try.prog Try.f4 [] = some f4 := by kernel_rfl

/-! 5: polyglot/polyglotlaw03.UstringHalves -/
def f5 : AFn := ⟨.seq (.ops [⟨(some 4), .mov (.c (.bool false)), none⟩])
  (.seq (.seq (.ops [⟨(some 12), .call (.c (.func (.func 16) [] [])) [], none⟩,
    ⟨(some 13), .not (.t 12), none⟩])
  (.cond (.t 13)
   (.seq (.ops [⟨(some 4), .mov (.c (.bool false)), none⟩])
   (.ret))
   (.skip)))
  (.seq (.seq (.ops [⟨(some 14), .mov (.t 0), none⟩,
    ⟨(some 15), .lenS (.t 14), none⟩,
    ⟨(some 16), .bin .gtr .none (.t 15) (.c (.int .i64 1000)), none⟩])
  (.cond (.t 16)
   (.seq (.ops [⟨(some 4), .mov (.c (.bool true)), none⟩])
   (.ret))
   (.skip)))
  (.seq (.ops [⟨(some 18), .mov (.t 0), none⟩,
    ⟨(some 19), .call (.c (.func (.func 20) [] [])) [(.t 18)], none⟩,
    ⟨(some 17), .mov (.t 19), none⟩,
    ⟨(some 20), .extract (.t 17) 0, none⟩,
    ⟨(some 21), .extract (.t 17) 1, none⟩,
    ⟨(some 5), .mov (.t 20), none⟩,
    ⟨(some 6), .mov (.t 21), none⟩])
  (.seq (.seq (.ops [⟨(some 22), .mov (.t 6), none⟩,
    ⟨(some 23), .not (.t 22), none⟩])
  (.cond (.t 23)
   (.seq (.ops [⟨(some 4), .mov (.c (.bool false)), none⟩])
   (.ret))
   (.skip)))
  (.seq (.ops [⟨(some 24), .mov (.t 0), none⟩,
    ⟨(some 25), .call (.c (.func (.func 19) [] [])) [(.t 24)], none⟩,
    ⟨(some 7), .mov (.t 25), none⟩])
  (.seq (.seq (.ops [⟨(some 26), .mov (.t 0), none⟩,
    ⟨(some 27), .call (.c (.func (.func 17) [] [])) [(.t 26)], none⟩,
    ⟨(some 28), .mov (.t 7), none⟩,
    ⟨(some 29), .bin .lss .none (.t 28) (.c (.int .i64 0)), none⟩,
    ⟨(some 30), .bin .neq .bool (.t 27) (.t 29), none⟩,
    ⟨(some 31), .mov (.t 30), none⟩,
    ⟨(some 32), .mov (.t 7), (some (31, false))⟩,
    ⟨(some 33), .mov (.t 0), (some (31, false))⟩,
    ⟨(some 34), .lenS (.t 33), (some (31, false))⟩,
    ⟨(some 35), .bin .geq .none (.t 32) (.t 34), (some (31, false))⟩,
    ⟨(some 36), .pick (.t 31) (.c (.bool true)) (.t 35), none⟩])
  (.cond (.t 36)
   (.seq (.ops [⟨(some 4), .mov (.c (.bool false)), none⟩])
   (.ret))
   (.skip)))
  (.seq (.ops [⟨(some 37), .mov (.t 0), none⟩,
    ⟨(some 38), .lenS (.t 37), none⟩,
    ⟨(some 8), .mov (.t 38), none⟩])
  (.seq (.seq (.ops [⟨(some 39), .mov (.t 7), none⟩,
    ⟨(some 40), .bin .geq .none (.t 39) (.c (.int .i64 0)), none⟩])
  (.cond (.t 40)
   (.ops [⟨(some 41), .mov (.t 7), none⟩,
     ⟨(some 8), .mov (.t 41), none⟩])
   (.skip)))
  (.seq (.seq (.ops [⟨(some 42), .mov (.t 5), none⟩,
    ⟨(some 43), .len (.t 42), none⟩,
    ⟨(some 44), .bin .eql .none (.t 43) (.c (.int .i64 0)), none⟩])
  (.cond (.t 44)
   (.seq (.ops [⟨(some 45), .mov (.t 8), none⟩,
     ⟨(some 46), .bin .eql .none (.t 45) (.c (.int .i64 0)), none⟩,
     ⟨(some 4), .mov (.t 46), none⟩])
   (.ret))
   (.skip)))
  (.seq (.ops [⟨(some 47), .mov (.t 1), none⟩,
    ⟨(some 48), .mov (.t 5), none⟩,
    ⟨(some 49), .len (.t 48), none⟩,
    ⟨(some 50), .call (.c (.func (.func 13) [] [])) [(.t 47), (.t 49)], none⟩,
    ⟨(some 9), .mov (.t 50), none⟩])
  (.seq (.quiet [⟨(some 51), .mov (.t 0), none⟩,
    ⟨(some 52), .mov (.t 5), none⟩,
    ⟨(some 53), .mov (.t 9), none⟩,
    ⟨(some 54), .indexAddr 2 (.t 52) (.t 53), none⟩,
    ⟨(some 55), .fieldAddr 0 (.t 54), none⟩,
    ⟨(some 56), .load1 (.t 55), none⟩,
    ⟨(some 57), .substr (.t 51) none (some (.t 56)), none⟩,
    ⟨(some 58), .mov (.t 0), none⟩,
    ⟨(some 59), .mov (.t 5), none⟩,
    ⟨(some 60), .mov (.t 9), none⟩,
    ⟨(some 61), .indexAddr 2 (.t 59) (.t 60), none⟩,
    ⟨(some 62), .fieldAddr 0 (.t 61), none⟩,
    ⟨(some 63), .load1 (.t 62), none⟩,
    ⟨(some 64), .mov (.t 8), none⟩,
    ⟨(some 65), .substr (.t 58) (some (.t 63)) (some (.t 64)), none⟩,
    ⟨(some 10), .mov (.t 57), none⟩,
    ⟨(some 11), .mov (.t 65), none⟩])
  (.seq (.quiet [⟨(some 66), .mov (.t 10), none⟩,
    ⟨(some 67), .call (.c (.func (.func 17) [] [])) [(.t 66)], none⟩,
    ⟨(some 68), .mov (.t 67), none⟩,
    ⟨(some 69), .mov (.t 11), (some (68, true))⟩,
    ⟨(some 70), .call (.c (.func (.func 17) [] [])) [(.t 69)], (some (68, true))⟩,
    ⟨(some 71), .pick (.t 68) (.t 70) (.c (.bool false)), none⟩,
    ⟨(some 72), .mov (.t 71), none⟩,
    ⟨(some 73), .mov (.t 10), (some (72, true))⟩,
    ⟨(some 74), .call (.c (.func (.func 18) [] [])) [(.t 73)], (some (72, true))⟩,
    ⟨(some 75), .mov (.t 9), (some (72, true))⟩,
    ⟨(some 76), .bin .eql .none (.t 74) (.t 75), (some (72, true))⟩,
    ⟨(some 77), .pick (.t 72) (.t 76) (.c (.bool false)), none⟩,
    ⟨(some 78), .mov (.t 77), none⟩,
    ⟨(some 79), .mov (.t 11), (some (78, true))⟩,
    ⟨(some 80), .call (.c (.func (.func 18) [] [])) [(.t 79)], (some (78, true))⟩,
    ⟨(some 81), .mov (.t 5), (some (78, true))⟩,
    ⟨(some 82), .len (.t 81), (some (78, true))⟩,
    ⟨(some 83), .mov (.t 9), (some (78, true))⟩,
    ⟨(some 84), .bin .sub .none (.t 82) (.t 83), (some (78, true))⟩,
    ⟨(some 85), .bin .eql .none (.t 80) (.t 84), (some (78, true))⟩,
    ⟨(some 86), .pick (.t 78) (.t 85) (.c (.bool false)), none⟩,
    ⟨(some 87), .mov (.t 86), none⟩,
    ⟨(some 88), .mov (.t 0), (some (87, true))⟩,
    ⟨(some 89), .call (.c (.func (.func 17) [] [])) [(.t 88)], (some (87, true))⟩,
    ⟨(some 90), .mov (.t 0), (some (87, true))⟩,
    ⟨(some 91), .mov (.t 5), (some (87, true))⟩,
    ⟨(some 92), .mov (.t 9), (some (87, true))⟩,
    ⟨(some 93), .indexAddr 2 (.t 91) (.t 92), (some (87, true))⟩,
    ⟨(some 94), .fieldAddr 0 (.t 93), (some (87, true))⟩,
    ⟨(some 95), .load1 (.t 94), (some (87, true))⟩,
    ⟨(some 96), .substr (.t 90) (some (.t 95)) none, (some (87, true))⟩,
    ⟨(some 97), .call (.c (.func (.func 17) [] [])) [(.t 96)], (some (87, true))⟩,
    ⟨(some 98), .bin .eql .bool (.t 89) (.t 97), (some (87, true))⟩,
    ⟨(some 99), .pick (.t 87) (.t 98) (.c (.bool false)), none⟩,
    ⟨(some 100), .mov (.t 99), none⟩,
    ⟨(some 101), .mov (.t 5), (some (100, true))⟩,
    ⟨(some 102), .mov (.t 9), (some (100, true))⟩,
    ⟨(some 103), .indexAddr 2 (.t 101) (.t 102), (some (100, true))⟩,
    ⟨(some 104), .fieldAddr 1 (.t 103), (some (100, true))⟩,
    ⟨(some 105), .load1 (.t 104), (some (100, true))⟩,
    ⟨(some 106), .i2s (.t 105), (some (100, true))⟩,
    ⟨(some 107), .mov (.t 0), (some (100, true))⟩,
    ⟨(some 108), .mov (.t 5), (some (100, true))⟩,
    ⟨(some 109), .mov (.t 9), (some (100, true))⟩,
    ⟨(some 110), .indexAddr 2 (.t 108) (.t 109), (some (100, true))⟩,
    ⟨(some 111), .fieldAddr 0 (.t 110), (some (100, true))⟩,
    ⟨(some 112), .load1 (.t 111), (some (100, true))⟩,
    ⟨(some 113), .mov (.t 5), (some (100, true))⟩,
    ⟨(some 114), .mov (.t 9), (some (100, true))⟩,
    ⟨(some 115), .mov (.t 8), (some (100, true))⟩,
    ⟨(some 116), .call (.c (.func (.func 21) [] [])) [(.t 113), (.t 114), (.t 115)], (some (100, true))⟩,
    ⟨(some 117), .substr (.t 107) (some (.t 112)) (some (.t 116)), (some (100, true))⟩,
    ⟨(some 118), .bin .eql .none (.t 106) (.t 117), (some (100, true))⟩,
    ⟨(some 119), .pick (.t 100) (.t 118) (.c (.bool false)), none⟩,
    ⟨(some 4), .mov (.t 119), none⟩])
  (.ret))))))))))))), 120, [.tmp 4]⟩
theorem f5_ok : compF Try.prog Try.f5 [] = some f5 := by kernel_rfl

/-! 6: polyglot/polyglotlaw01.OctetParts -/
def f6_M0 : List Bool := [true, true, false, false, false, true, true, true, false, false, false, false, false, false, false, false, false, false, false, false, false, false, false, false, false, false, false, false, false, false, false, false, false, false, false, false, false, false, false, false, false, false, false, false, false, false, false, false, false, false, false, false, false, false, false, false, false, false, false, false, false, false, false, false, false, false, false, false, false, false, false, false, false, false, false, false, false, false, false, false, false, false, false, false, false, false, false, false, false, false, false, false, false, false, false, false, false, false, false, false, false, false, false, false, false, false, false, false, false, false, false, false, false, false, false, false, false, false, false, false, false, false, false, false, false, false, false, false, false, false, false, false, false, false]
def f6_L0 : AC := .seq (.seq (.ops [⟨(some 26), .mov (.t 7), none⟩,
    ⟨(some 27), .mov (.t 1), none⟩,
    ⟨(some 28), .len (.t 27), none⟩,
    ⟨(some 29), .bin .lss .none (.t 26) (.t 28), none⟩])
  (.cond (.t 29)
   (.skip)
   (.exit 0)))
  (.seq (.block 1 (.seq (.ops [⟨(some 32), .mov (.t 5), none⟩,
     ⟨(some 33), .call (.c (.func (.func 23) [] [])) [(.t 32)], none⟩,
     ⟨(some 34), .mov (.t 5), none⟩,
     ⟨(some 35), .call (.c (.func (.func 24) [] [])) [(.t 34)], none⟩,
     ⟨(some 8), .mov (.t 33), none⟩,
     ⟨(some 9), .mov (.t 35), none⟩])
   (.seq (.ops [⟨(some 36), .mov (.t 5), none⟩,
     ⟨(some 37), .mov (.t 1), none⟩,
     ⟨(some 38), .mov (.t 7), none⟩,
     ⟨(some 39), .indexAddr 1 (.t 37) (.t 38), none⟩,
     ⟨(some 40), .load1 (.t 39), none⟩,
     ⟨(some 41), .call (.c (.func (.func 25) [] [])) [(.t 36), (.t 40)], none⟩,
     ⟨(some 42), .mov (.t 5), none⟩,
     ⟨(some 43), .call (.c (.func (.func 26) [] [])) [(.t 42)], none⟩,
     ⟨(some 10), .mov (.t 41), none⟩,
     ⟨(some 11), .mov (.t 43), none⟩])
   (.seq (.ops [⟨(some 44), .mov (.t 5), none⟩,
     ⟨(some 45), .mov (.t 1), none⟩,
     ⟨(some 46), .mov (.t 7), none⟩,
     ⟨(some 47), .indexAddr 1 (.t 45) (.t 46), none⟩,
     ⟨(some 48), .load1 (.t 47), none⟩,
     ⟨(some 49), .call (.c (.func (.func 27) [] [])) [(.t 44), (.t 48)], none⟩,
     ⟨(some 12), .mov (.t 49), none⟩])
   (.seq (.ops [⟨(some 50), .mov (.t 6), none⟩,
     ⟨(some 51), .mov (.t 12), none⟩,
     ⟨(some 52), .bin .add .none (.t 50) (.t 51), none⟩,
     ⟨(some 6), .mov (.t 52), none⟩])
   (.seq (.ops [⟨(some 53), .mov (.t 8), none⟩,
     ⟨(some 54), .bin .eql .none (.t 53) (.c (.int .i64 0)), none⟩,
     ⟨(some 55), .mov (.t 54), none⟩,
     ⟨(some 56), .mov (.t 1), (some (55, true))⟩,
     ⟨(some 57), .mov (.t 7), (some (55, true))⟩,
     ⟨(some 58), .indexAddr 1 (.t 56) (.t 57), (some (55, true))⟩,
     ⟨(some 59), .load1 (.t 58), (some (55, true))⟩,
     ⟨(some 60), .bin .geq .none (.t 59) (.c (.int .i64 0)), (some (55, true))⟩,
     ⟨(some 61), .pick (.t 55) (.t 60) (.c (.bool false)), none⟩,
     ⟨(some 62), .mov (.t 61), none⟩,
     ⟨(some 63), .mov (.t 1), (some (62, true))⟩,
     ⟨(some 64), .mov (.t 7), (some (62, true))⟩,
     ⟨(some 65), .indexAddr 1 (.t 63) (.t 64), (some (62, true))⟩,
     ⟨(some 66), .load1 (.t 65), (some (62, true))⟩,
     ⟨(some 67), .mov (.t 9), (some (62, true))⟩,
     ⟨(some 68), .bin .leq .none (.t 66) (.t 67), (some (62, true))⟩,
     ⟨(some 69), .pick (.t 62) (.t 68) (.c (.bool false)), none⟩,
     ⟨(some 13), .mov (.t 69), none⟩])
   (.seq (.seq (.ops [⟨(some 70), .mov (.t 12), none⟩,
     ⟨(some 71), .mov (.t 10), none⟩,
     ⟨(some 72), .bin .neq .none (.t 70) (.t 71), none⟩,
     ⟨(some 73), .mov (.t 72), none⟩,
     ⟨(some 74), .mov (.t 13), (some (73, false))⟩,
     ⟨(some 75), .mov (.t 74), (some (73, false))⟩,
     ⟨(some 76), .mov (.t 12), (some (75, true))⟩,
     ⟨(some 77), .mov (.t 11), (some (75, true))⟩,
     ⟨(some 78), .mov (.t 1), (some (75, true))⟩,
     ⟨(some 79), .mov (.t 7), (some (75, true))⟩,
     ⟨(some 80), .indexAddr 1 (.t 78) (.t 79), (some (75, true))⟩,
     ⟨(some 81), .load1 (.t 80), (some (75, true))⟩,
     ⟨(some 82), .substr (.t 77) none (some (.t 81)), (some (75, true))⟩,
     ⟨(some 83), .bin .neq .none (.t 76) (.t 82), (some (75, true))⟩,
     ⟨(some 84), .pick (.t 75) (.t 83) (.c (.bool false)), (some (73, false))⟩,
     ⟨(some 85), .pick (.t 73) (.c (.bool true)) (.t 84), none⟩,
     ⟨(some 86), .mov (.t 85), none⟩,
     ⟨(some 87), .mov (.t 13), (some (86, false))⟩,
     ⟨(some 88), .not (.t 87), (some (86, false))⟩,
     ⟨(some 89), .mov (.t 88), (some (86, false))⟩,
     ⟨(some 90), .mov (.t 12), (some (89, true))⟩,
     ⟨(some 91), .bin .neq .none (.t 90) (.c (.str [])), (some (89, true))⟩,
     ⟨(some 92), .pick (.t 89) (.t 91) (.c (.bool false)), (some (86, false))⟩,
     ⟨(some 93), .pick (.t 86) (.c (.bool true)) (.t 92), none⟩,
     ⟨(some 94), .mov (.t 93), none⟩,
     ⟨(some 95), .mov (.t 5), (some (94, false))⟩,
     ⟨(some 96), .call (.c (.func (.func 23) [] [])) [(.t 95)], (some (94, false))⟩,
     ⟨(some 97), .bin .eql .none (.t 96) (.c (.int .i64 0)), (some (94, false))⟩,
     ⟨(some 98), .mov (.t 13), (some (94, false))⟩,
     ⟨(some 99), .bin .neq .bool (.t 97) (.t 98), (some (94, false))⟩,
     ⟨(some 100), .pick (.t 94) (.c (.bool true)) (.t 99), none⟩,
     ⟨(some 101), .mov (.t 100), none⟩,
     ⟨(some 102), .mov (.t 5), (some (101, false))⟩,
     ⟨(some 103), .call (.c (.func (.func 24) [] [])) [(.t 102)], (some (101, false))⟩,
     ⟨(some 104), .mov (.t 9), (some (101, false))⟩,
     ⟨(some 105), .mov (.t 12), (some (101, false))⟩,
     ⟨(some 106), .lenS (.t 105), (some (101, false))⟩,
     ⟨(some 107), .bin .sub .none (.t 104) (.t 106), (some (101, false))⟩,
     ⟨(some 108), .bin .neq .none (.t 103) (.t 107), (some (101, false))⟩,
     ⟨(some 109), .pick (.t 101) (.c (.bool true)) (.t 108), none⟩])
   (.cond (.t 109)
    (.seq (.ops [⟨(some 4), .mov (.c (.bool false)), none⟩])
    (.ret))
    (.skip)))
   (.seq (.ops [⟨(some 110), .mov (.t 13), none⟩,
     ⟨(some 111), .not (.t 110), none⟩,
     ⟨(some 112), .mov (.t 111), none⟩,
     ⟨(some 113), .mov (.t 8), (some (112, true))⟩,
     ⟨(some 114), .bin .eql .none (.t 113) (.c (.int .i64 0)), (some (112, true))⟩,
     ⟨(some 115), .pick (.t 112) (.t 114) (.c (.bool false)), none⟩,
     ⟨(some 116), .mov (.t 115), none⟩,
     ⟨(some 117), .mov (.t 5), (some (116, true))⟩,
     ⟨(some 118), .call (.c (.func (.func 23) [] [])) [(.t 117)], (some (116, true))⟩,
     ⟨(some 119), .bin .neq .none (.t 118) (.c (.int .i64 3)), (some (116, true))⟩,
     ⟨(some 120), .pick (.t 116) (.t 119) (.c (.bool false)), none⟩])
   (.cond (.t 120)
    (.seq (.ops [⟨(some 4), .mov (.c (.bool false)), none⟩])
    (.ret))
    (.skip))))))))))
  (.ops [⟨(some 30), .mov (.t 7), none⟩,
    ⟨(some 31), .bin .add .none (.t 30) (.c (.int .i64 1)), none⟩,
    ⟨(some 7), .mov (.t 31), none⟩]))
/-- live: [0, 1, 5, 6, 7] -/
def f6_S0 (x0 x1 x5 x6 x7 : AV) : List AV := [x0, x1, .junk, .junk, .junk, x5, x6, x7, .junk, .junk, .junk, .junk, .junk, .junk, .junk, .junk, .junk, .junk, .junk, .junk, .junk, .junk, .junk, .junk, .junk, .junk, .junk, .junk, .junk, .junk, .junk, .junk, .junk, .junk, .junk, .junk, .junk, .junk, .junk, .junk, .junk, .junk, .junk, .junk, .junk, .junk, .junk, .junk, .junk, .junk, .junk, .junk, .junk, .junk, .junk, .junk, .junk, .junk, .junk, .junk, .junk, .junk, .junk, .junk, .junk, .junk, .junk, .junk, .junk, .junk, .junk, .junk, .junk, .junk, .junk, .junk, .junk, .junk, .junk, .junk, .junk, .junk, .junk, .junk, .junk, .junk, .junk, .junk, .junk, .junk, .junk, .junk, .junk, .junk, .junk, .junk, .junk, .junk, .junk, .junk, .junk, .junk, .junk, .junk, .junk, .junk, .junk, .junk, .junk, .junk, .junk, .junk, .junk, .junk, .junk, .junk, .junk, .junk, .junk, .junk, .junk, .junk, .junk, .junk, .junk, .junk, .junk, .junk, .junk, .junk, .junk, .junk, .junk, .junk]
def f6 : AFn := ⟨.seq (.ops [⟨(some 4), .mov (.c (.bool false)), none⟩])
  (.seq (.seq (.ops [⟨(some 14), .call (.c (.func (.func 12) [] [])) [], none⟩,
    ⟨(some 15), .not (.t 14), none⟩])
  (.cond (.t 15)
   (.seq (.ops [⟨(some 4), .mov (.c (.bool false)), none⟩])
   (.ret))
   (.skip)))
  (.seq (.seq (.ops [⟨(some 16), .mov (.t 0), none⟩,
    ⟨(some 17), .lenS (.t 16), none⟩,
    ⟨(some 18), .bin .gtr .none (.t 17) (.c (.int .i64 200)), none⟩,
    ⟨(some 19), .mov (.t 18), none⟩,
    ⟨(some 20), .mov (.t 1), (some (19, false))⟩,
    ⟨(some 21), .len (.t 20), (some (19, false))⟩,
    ⟨(some 22), .bin .gtr .none (.t 21) (.c (.int .i64 60)), (some (19, false))⟩,
    ⟨(some 23), .pick (.t 19) (.c (.bool true)) (.t 22), none⟩])
  (.cond (.t 23)
   (.seq (.ops [⟨(some 4), .mov (.c (.bool true)), none⟩])
   (.ret))
   (.skip)))
  (.seq (.ops [⟨(some 24), .mov (.t 0), none⟩,
    ⟨(some 25), .call (.c (.func (.func 22) [] [])) [(.t 24)], none⟩,
    ⟨(some 5), .mov (.t 25), none⟩])
  (.seq (.ops [⟨(some 6), .mov (.c (.str [])), none⟩])
  (.seq (.seq (.ops [⟨(some 7), .mov (.c (.int .i64 0)), none⟩])
  (.block 0 (.loop f6_M0 f6_L0)))
  (.seq (.ops [⟨(some 121), .mov (.t 6), none⟩,
    ⟨(some 122), .mov (.t 5), none⟩,
    ⟨(some 123), .call (.c (.func (.func 26) [] [])) [(.t 122)], none⟩,
    ⟨(some 124), .bin .add .none (.t 121) (.t 123), none⟩,
    ⟨(some 125), .mov (.t 0), none⟩,
    ⟨(some 126), .bin .eql .none (.t 124) (.t 125), none⟩,
    ⟨(some 127), .mov (.t 126), none⟩,
    ⟨(some 128), .mov (.t 5), (some (127, true))⟩,
    ⟨(some 129), .call (.c (.func (.func 28) [] [])) [(.t 128)], (some (127, true))⟩,
    ⟨(some 130), .mov (.t 6), (some (127, true))⟩,
    ⟨(some 131), .lenS (.t 130), (some (127, true))⟩,
    ⟨(some 132), .bin .eql .none (.t 129) (.t 131), (some (127, true))⟩,
    ⟨(some 133), .pick (.t 127) (.t 132) (.c (.bool false)), none⟩,
    ⟨(some 4), .mov (.t 133), none⟩])
  (.ret))))))), 134, [.tmp 4]⟩
theorem f6_ok : compF Try.prog Try.f6 [[true, true, false, false, false, true, true, true, false, false, false, false, false, false, false, false, false, false, false, false, false, false, false, false, false, false, false, false, false, false, false, false, false, false, false, false, false, false, false, false, false, false, false, false, false, false, false, false, false, false, false, false, false, false, false, false, false, false, false, false, false, false, false, false, false, false, false, false, false, false, false, false, false, false, false, false, false, false, false, false, false, false, false, false, false, false, false, false, false, false, false, false, false, false, false, false, false, false, false, false, false, false, false, false, false, false, false, false, false, false, false, false, false, false, false, false, false, false, false, false, false, false, false, false, false, false, false, false, false, false, false, false, false, false]] = some f6 := by kernel_rfl

/-! 7: polyglot/polyglotlaw01.OctetNames -/
def f7 : AFn := ⟨.seq (.ops [⟨(some 0), .mov (.c (.bool false)), none⟩])
  (.seq (.seq (.ops [⟨(some 13), .call (.c (.func (.func 12) [] [])) [], none⟩,
    ⟨(some 14), .not (.t 13), none⟩])
  (.cond (.t 14)
   (.seq (.ops [⟨(some 0), .mov (.c (.bool false)), none⟩])
   (.ret))
   (.skip)))
  (.seq (.ops [⟨(some 15), .call (.c (.func (.func 22) [] [])) [(.c (.str [1, 2, 3, 4, 5]))], none⟩,
    ⟨(some 1), .mov (.t 15), none⟩])
  (.seq (.ops [⟨(some 16), .mov (.t 1), none⟩,
    ⟨(some 17), .call (.c (.func (.func 27) [] [])) [(.t 16), (.c (.int .i64 1))], none⟩,
    ⟨(some 18), .mov (.t 1), none⟩,
    ⟨(some 19), .call (.c (.func (.func 29) [] [])) [(.t 18), (.c (.int .i64 2))], none⟩,
    ⟨(some 20), .mov (.t 1), none⟩,
    ⟨(some 21), .call (.c (.func (.func 25) [] [])) [(.t 20), (.c (.int .i64 2))], none⟩,
    ⟨(some 2), .mov (.t 17), none⟩,
    ⟨(some 3), .mov (.t 19), none⟩,
    ⟨(some 4), .mov (.t 21), none⟩])
  (.seq (.ops [⟨(some 22), .mov (.t 1), none⟩,
    ⟨(some 23), .call (.c (.func (.func 25) [] [])) [(.t 22), (.c (.int .i64 9))], none⟩,
    ⟨(some 5), .mov (.t 23), none⟩])
  (.seq (.ops [⟨(some 24), .mov (.t 1), none⟩,
    ⟨(some 25), .call (.c (.func (.func 27) [] [])) [(.t 24), (.c (.int .i64 3))], none⟩,
    ⟨(some 6), .mov (.t 25), none⟩])
  (.seq (.ops [⟨(some 26), .mov (.t 1), none⟩,
    ⟨(some 27), .call (.c (.func (.func 23) [] [])) [(.t 26)], none⟩,
    ⟨(some 7), .mov (.t 27), none⟩])
  (.seq (.ops [⟨(some 28), .mov (.t 1), none⟩,
    ⟨(some 29), .call (.c (.func (.func 30) [] [])) [(.t 28), (.c (.int .i64 5))], none⟩])
  (.seq (.ops [⟨(some 30), .mov (.t 1), none⟩,
    ⟨(some 31), .call (.c (.func (.func 27) [] [])) [(.t 30), (.c (.int .i64 1))], none⟩,
    ⟨(some 8), .mov (.t 31), none⟩])
  (.seq (.ops [⟨(some 32), .call (.c (.func (.func 22) [] [])) [(.c (.str [120]))], none⟩,
    ⟨(some 9), .mov (.t 32), none⟩])
  (.seq (.ops [⟨(some 33), .mov (.t 9), none⟩,
    ⟨(some 34), .call (.c (.func (.func 30) [] [])) [(.t 33), (.c (.int .i64 0))], none⟩])
  (.seq (.ops [⟨(some 35), .mov (.t 9), none⟩,
    ⟨(some 36), .call (.c (.func (.func 23) [] [])) [(.t 35)], none⟩,
    ⟨(some 10), .mov (.t 36), none⟩])
  (.seq (.ops [⟨(some 37), .mov (.t 9), none⟩,
    ⟨(some 38), .call (.c (.func (.func 30) [] [])) [(.t 37), (.c (.int .i64 5))], none⟩])
  (.seq (.ops [⟨(some 39), .mov (.t 9), none⟩,
    ⟨(some 40), .call (.c (.func (.func 27) [] [])) [(.t 39), (.c (.int .i64 (-1)))], none⟩,
    ⟨(some 11), .mov (.t 40), none⟩])
  (.seq (.ops [⟨(some 12), .mov (.c (.nilptr)), none⟩])
  (.seq (.ops [⟨(some 41), .mov (.t 12), none⟩,
    ⟨(some 42), .call (.c (.func (.func 30) [] [])) [(.t 41), (.c (.int .i64 5))], none⟩])
  (.seq (.ops [⟨(some 43), .mov (.t 2), none⟩,
    ⟨(some 44), .bin .eql .none (.t 43) (.c (.str [1])), none⟩,
    ⟨(some 45), .mov (.t 44), none⟩,
    ⟨(some 46), .mov (.t 3), (some (45, true))⟩,
    ⟨(some 47), .bin .eql .none (.t 46) (.c (.int .u64 515)), (some (45, true))⟩,
    ⟨(some 48), .pick (.t 45) (.t 47) (.c (.bool false)), none⟩,
    ⟨(some 49), .mov (.t 48), none⟩,
    ⟨(some 50), .mov (.t 4), (some (49, true))⟩,
    ⟨(some 51), .bin .eql .none (.t 50) (.c (.str [4, 5])), (some (49, true))⟩,
    ⟨(some 52), .pick (.t 49) (.t 51) (.c (.bool false)), none⟩,
    ⟨(some 53), .mov (.t 52), none⟩,
    ⟨(some 54), .mov (.t 5), (some (53, true))⟩,
    ⟨(some 55), .bin .eql .none (.t 54) (.c (.str [])), (some (53, true))⟩,
    ⟨(some 56), .pick (.t 53) (.t 55) (.c (.bool false)), none⟩,
    ⟨(some 57), .mov (.t 56), none⟩,
    ⟨(some 58), .mov (.t 6), (some (57, true))⟩,
    ⟨(some 59), .bin .eql .none (.t 58) (.c (.str [])), (some (57, true))⟩,
    ⟨(some 60), .pick (.t 57) (.t 59) (.c (.bool false)), none⟩,
    ⟨(some 61), .mov (.t 60), none⟩,
    ⟨(some 62), .mov (.t 7), (some (61, true))⟩,
    ⟨(some 63), .bin .eql .none (.t 62) (.c (.int .i64 3)), (some (61, true))⟩,
    ⟨(some 64), .pick (.t 61) (.t 63) (.c (.bool false)), none⟩,
    ⟨(some 65), .mov (.t 64), none⟩,
    ⟨(some 66), .mov (.t 1), (some (65, true))⟩,
    ⟨(some 67), .call (.c (.func (.func 23) [] [])) [(.t 66)], (some (65, true))⟩,
    ⟨(some 68), .bin .eql .none (.t 67) (.c (.int .i64 3)), (some (65, true))⟩,
    ⟨(some 69), .pick (.t 65) (.t 68) (.c (.bool false)), none⟩,
    ⟨(some 70), .mov (.t 69), none⟩,
    ⟨(some 71), .mov (.t 8), (some (70, true))⟩,
    ⟨(some 72), .bin .eql .none (.t 71) (.c (.str [])), (some (70, true))⟩,
    ⟨(some 73), .pick (.t 70) (.t 72) (.c (.bool false)), none⟩,
    ⟨(some 74), .mov (.t 73), none⟩,
    ⟨(some 75), .mov (.t 1), (some (74, true))⟩,
    ⟨(some 76), .call (.c (.func (.func 28) [] [])) [(.t 75)], (some (74, true))⟩,
    ⟨(some 77), .bin .eql .none (.t 76) (.c (.int .i64 3)), (some (74, true))⟩,
    ⟨(some 78), .pick (.t 74) (.t 77) (.c (.bool false)), none⟩,
    ⟨(some 79), .mov (.t 78), none⟩,
    ⟨(some 80), .mov (.t 1), (some (79, true))⟩,
    ⟨(some 81), .call (.c (.func (.func 24) [] [])) [(.t 80)], (some (79, true))⟩,
    ⟨(some 82), .bin .eql .none (.t 81) (.c (.int .i64 2)), (some (79, true))⟩,
    ⟨(some 83), .pick (.t 79) (.t 82) (.c (.bool false)), none⟩,
    ⟨(some 84), .mov (.t 83), none⟩,
    ⟨(some 85), .mov (.t 1), (some (84, true))⟩,
    ⟨(some 86), .call (.c (.func (.func 26) [] [])) [(.t 85)], (some (84, true))⟩,
    ⟨(some 87), .bin .eql .none (.t 86) (.c (.str [4, 5])), (some (84, true))⟩,
    ⟨(some 88), .pick (.t 84) (.t 87) (.c (.bool false)), none⟩,
    ⟨(some 89), .mov (.t 88), none⟩,
    ⟨(some 90), .mov (.t 1), (some (89, true))⟩,
    ⟨(some 91), .call (.c (.func (.func 25) [] [])) [(.t 90), (.c (.int .i64 1))], (some (89, true))⟩,
    ⟨(some 92), .bin .eql .none (.t 91) (.c (.str [])), (some (89, true))⟩,
    ⟨(some 93), .pick (.t 89) (.t 92) (.c (.bool false)), none⟩,
    ⟨(some 94), .mov (.t 93), none⟩,
    ⟨(some 95), .mov (.t 1), (some (94, true))⟩,
    ⟨(some 96), .call (.c (.func (.func 29) [] [])) [(.t 95), (.c (.int .i64 1))], (some (94, true))⟩,
    ⟨(some 97), .bin .eql .none (.t 96) (.c (.int .u64 0)), (some (94, true))⟩,
    ⟨(some 98), .pick (.t 94) (.t 97) (.c (.bool false)), none⟩,
    ⟨(some 99), .mov (.t 98), none⟩,
    ⟨(some 100), .mov (.t 10), (some (99, true))⟩,
    ⟨(some 101), .bin .eql .none (.t 100) (.c (.int .i64 0)), (some (99, true))⟩,
    ⟨(some 102), .pick (.t 99) (.t 101) (.c (.bool false)), none⟩,
    ⟨(some 103), .mov (.t 102), none⟩,
    ⟨(some 104), .mov (.t 11), (some (103, true))⟩,
    ⟨(some 105), .bin .eql .none (.t 104) (.c (.str [])), (some (103, true))⟩,
    ⟨(some 106), .pick (.t 103) (.t 105) (.c (.bool false)), none⟩,
    ⟨(some 107), .mov (.t 106), none⟩,
    ⟨(some 108), .mov (.t 9), (some (107, true))⟩,
    ⟨(some 109), .call (.c (.func (.func 23) [] [])) [(.t 108)], (some (107, true))⟩,
    ⟨(some 110), .bin .eql .none (.t 109) (.c (.int .i64 5)), (some (107, true))⟩,
    ⟨(some 111), .pick (.t 107) (.t 110) (.c (.bool false)), none⟩,
    ⟨(some 112), .mov (.t 111), none⟩,
    ⟨(some 113), .call (.c (.func (.func 14) [] [])) [(.c (.int .u64 1)), (.c (.int .i64 0))], (some (112, true))⟩,
    ⟨(some 114), .bin .eql .none (.t 113) (.c (.str [])), (some (112, true))⟩,
    ⟨(some 115), .pick (.t 112) (.t 114) (.c (.bool false)), none⟩,
    ⟨(some 116), .mov (.t 115), none⟩,
    ⟨(some 117), .call (.c (.func (.func 14) [] [])) [(.c (.int .u64 1)), (.c (.int .i64 (-3)))], (some (116, true))⟩,
    ⟨(some 118), .bin .eql .none (.t 117) (.c (.str [])), (some (116, true))⟩,
    ⟨(some 119), .pick (.t 116) (.t 118) (.c (.bool false)), none⟩,
    ⟨(some 120), .mov (.t 119), none⟩,
    ⟨(some 121), .call (.c (.func (.func 14) [] [])) [(.c (.int .u64 1)), (.c (.int .i64 99))], (some (120, true))⟩,
    ⟨(some 122), .lenS (.t 121), (some (120, true))⟩,
    ⟨(some 123), .bin .eql .none (.t 122) (.c (.int .i64 16)), (some (120, true))⟩,
    ⟨(some 124), .pick (.t 120) (.t 123) (.c (.bool false)), none⟩,
    ⟨(some 125), .mov (.t 124), none⟩,
    ⟨(some 126), .call (.c (.func (.func 14) [] [])) [(.c (.int .u64 511)), (.c (.int .i64 1))], (some (125, true))⟩,
    ⟨(some 127), .bin .eql .none (.t 126) (.c (.str [255])), (some (125, true))⟩,
    ⟨(some 128), .pick (.t 125) (.t 127) (.c (.bool false)), none⟩,
    ⟨(some 129), .mov (.t 128), none⟩,
    ⟨(some 130), .call (.c (.func (.func 15) [] [])) [(.c (.str []))], (some (129, true))⟩,
    ⟨(some 131), .bin .eql .none (.t 130) (.c (.int .u64 0)), (some (129, true))⟩,
    ⟨(some 132), .pick (.t 129) (.t 131) (.c (.bool false)), none⟩,
    ⟨(some 133), .mov (.t 132), none⟩,
    ⟨(some 134), .call (.c (.func (.func 15) [] [])) [(.c (.str [9, 0, 0, 0, 0, 0, 0, 0, 1]))], (some (133, true))⟩,
    ⟨(some 135), .bin .eql .none (.t 134) (.c (.int .u64 1)), (some (133, true))⟩,
    ⟨(some 136), .pick (.t 133) (.t 135) (.c (.bool false)), none⟩,
    ⟨(some 137), .mov (.t 136), none⟩,
    ⟨(some 138), .mov (.t 12), (some (137, true))⟩,
    ⟨(some 139), .call (.c (.func (.func 27) [] [])) [(.t 138), (.c (.int .i64 1))], (some (137, true))⟩,
    ⟨(some 140), .bin .eql .none (.t 139) (.c (.str [])), (some (137, true))⟩,
    ⟨(some 141), .pick (.t 137) (.t 140) (.c (.bool false)), none⟩,
    ⟨(some 142), .mov (.t 141), none⟩,
    ⟨(some 143), .mov (.t 12), (some (142, true))⟩,
    ⟨(some 144), .call (.c (.func (.func 29) [] [])) [(.t 143), (.c (.int .i64 1))], (some (142, true))⟩,
    ⟨(some 145), .bin .eql .none (.t 144) (.c (.int .u64 0)), (some (142, true))⟩,
    ⟨(some 146), .pick (.t 142) (.t 145) (.c (.bool false)), none⟩,
    ⟨(some 147), .mov (.t 146), none⟩,
    ⟨(some 148), .mov (.t 12), (some (147, true))⟩,
    ⟨(some 149), .call (.c (.func (.func 25) [] [])) [(.t 148), (.c (.int .i64 1))], (some (147, true))⟩,
    ⟨(some 150), .bin .eql .none (.t 149) (.c (.str [])), (some (147, true))⟩,
    ⟨(some 151), .pick (.t 147) (.t 150) (.c (.bool false)), none⟩,
    ⟨(some 152), .mov (.t 151), none⟩,
    ⟨(some 153), .mov (.t 12), (some (152, true))⟩,
    ⟨(some 154), .call (.c (.func (.func 28) [] [])) [(.t 153)], (some (152, true))⟩,
    ⟨(some 155), .bin .eql .none (.t 154) (.c (.int .i64 0)), (some (152, true))⟩,
    ⟨(some 156), .pick (.t 152) (.t 155) (.c (.bool false)), none⟩,
    ⟨(some 157), .mov (.t 156), none⟩,
    ⟨(some 158), .mov (.t 12), (some (157, true))⟩,
    ⟨(some 159), .call (.c (.func (.func 24) [] [])) [(.t 158)], (some (157, true))⟩,
    ⟨(some 160), .bin .eql .none (.t 159) (.c (.int .i64 0)), (some (157, true))⟩,
    ⟨(some 161), .pick (.t 157) (.t 160) (.c (.bool false)), none⟩,
    ⟨(some 162), .mov (.t 161), none⟩,
    ⟨(some 163), .mov (.t 12), (some (162, true))⟩,
    ⟨(some 164), .call (.c (.func (.func 26) [] [])) [(.t 163)], (some (162, true))⟩,
    ⟨(some 165), .bin .eql .none (.t 164) (.c (.str [])), (some (162, true))⟩,
    ⟨(some 166), .pick (.t 162) (.t 165) (.c (.bool false)), none⟩,
    ⟨(some 167), .mov (.t 166), none⟩,
    ⟨(some 168), .mov (.t 12), (some (167, true))⟩,
    ⟨(some 169), .call (.c (.func (.func 23) [] [])) [(.t 168)], (some (167, true))⟩,
    ⟨(some 170), .bin .eql .none (.t 169) (.c (.int .i64 1)), (some (167, true))⟩,
    ⟨(some 171), .pick (.t 167) (.t 170) (.c (.bool false)), none⟩,
    ⟨(some 0), .mov (.t 171), none⟩])
  (.ret))))))))))))))))), 172, [.tmp 0]⟩
theorem f7_ok : compF Try.prog Try.f7 [] = some f7 := by kernel_rfl

/-! 8: polyglot/polyglotlaw01.OctetScript -/
def f8_M0 : List Bool := [false, true, false, false, false, true, true, true, false, false, false, false, false, false, false, false, false, false, false, false, false, false, false, false, false, false, false, false, false, false, false, false, false, false, false, false, false, false, false, false, false, false, false, false, false, false, false, false, false, false, false, false, false, false, false, false, false, false, false, false, false, false, false, false, false, false, false, false, false, false, false, false, false, false, false, false, false, false, false, false, false, false, false, false, false, false, false, false, false, false, false, false, false, false, false, false, false, false, false, false, false, false, false, false, false, false, false, false]
def f8_L0 : AC := .seq (.seq (.ops [⟨(some 24), .mov (.t 7), none⟩,
    ⟨(some 25), .mov (.t 1), none⟩,
    ⟨(some 26), .len (.t 25), none⟩,
    ⟨(some 27), .bin .lss .none (.t 24) (.t 26), none⟩])
  (.cond (.t 27)
   (.skip)
   (.exit 0)))
  (.seq (.block 1 (.seq (.ops [⟨(some 30), .mov (.t 1), none⟩,
     ⟨(some 31), .mov (.t 7), none⟩,
     ⟨(some 32), .indexAddr 2 (.t 30) (.t 31), none⟩,
     ⟨(some 33), .fieldAddr 1 (.t 32), none⟩,
     ⟨(some 34), .load1 (.t 33), none⟩,
     ⟨(some 8), .mov (.t 34), none⟩])
   (.seq (.ops [⟨(some 9), .mov (.c (.bool true)), none⟩])
   (.seq (.seq (.ops [⟨(some 35), .mov (.t 1), none⟩,
     ⟨(some 36), .mov (.t 7), none⟩,
     ⟨(some 37), .indexAddr 2 (.t 35) (.t 36), none⟩,
     ⟨(some 38), .fieldAddr 0 (.t 37), none⟩,
     ⟨(some 39), .load1 (.t 38), none⟩,
     ⟨(some 40), .call (.c (.func (.func 13) [] [])) [(.t 39), (.c (.int .i64 4))], none⟩])
   (.block 2 (.seq (.ops [⟨(some 48), .bin .eql .none (.t 40) (.c (.int .i64 0)), none⟩,
      ⟨(some 47), .mov (.t 48), none⟩])
    (.cond (.t 47)
     (.ops [⟨(some 49), .mov (.t 5), none⟩,
       ⟨(some 50), .mov (.t 8), none⟩,
       ⟨(some 51), .call (.c (.func (.func 27) [] [])) [(.t 49), (.t 50)], none⟩,
       ⟨(some 52), .mov (.t 6), none⟩,
       ⟨(some 53), .mov (.t 8), none⟩,
       ⟨(some 54), .call (.c (.func (.func 32) [] [])) [(.t 52), (.t 53)], none⟩,
       ⟨(some 55), .bin .eql .none (.t 51) (.t 54), none⟩,
       ⟨(some 9), .mov (.t 55), none⟩])
     (.seq (.ops [⟨(some 57), .bin .eql .none (.t 40) (.c (.int .i64 1)), none⟩,
       ⟨(some 56), .mov (.t 57), none⟩])
     (.cond (.t 56)
      (.ops [⟨(some 58), .mov (.t 5), none⟩,
        ⟨(some 59), .mov (.t 8), none⟩,
        ⟨(some 60), .call (.c (.func (.func 29) [] [])) [(.t 58), (.t 59)], none⟩,
        ⟨(some 61), .mov (.t 6), none⟩,
        ⟨(some 62), .mov (.t 8), none⟩,
        ⟨(some 63), .call (.c (.func (.func 33) [] [])) [(.t 61), (.t 62)], none⟩,
        ⟨(some 64), .bin .eql .none (.t 60) (.t 63), none⟩,
        ⟨(some 9), .mov (.t 64), none⟩])
      (.seq (.ops [⟨(some 66), .bin .eql .none (.t 40) (.c (.int .i64 2)), none⟩,
        ⟨(some 65), .mov (.t 66), none⟩])
      (.cond (.t 65)
       (.ops [⟨(some 67), .mov (.t 5), none⟩,
         ⟨(some 68), .mov (.t 8), none⟩,
         ⟨(some 69), .call (.c (.func (.func 25) [] [])) [(.t 67), (.t 68)], none⟩,
         ⟨(some 70), .mov (.t 6), none⟩,
         ⟨(some 71), .mov (.t 8), none⟩,
         ⟨(some 72), .call (.c (.func (.func 34) [] [])) [(.t 70), (.t 71)], none⟩,
         ⟨(some 73), .bin .eql .none (.t 69) (.t 72), none⟩,
         ⟨(some 9), .mov (.t 73), none⟩])
       (.seq (.ops [⟨(some 41), .mov (.t 5), none⟩,
         ⟨(some 42), .mov (.t 8), none⟩,
         ⟨(some 43), .call (.c (.func (.func 30) [] [])) [(.t 41), (.t 42)], none⟩])
       (.ops [⟨(some 44), .mov (.t 6), none⟩,
         ⟨(some 45), .mov (.t 8), none⟩,
         ⟨(some 46), .call (.c (.func (.func 35) [] [])) [(.t 44), (.t 45)], none⟩]))))))))))
   (.seq (.quiet [⟨(some 74), .mov (.t 9), none⟩,
     ⟨(some 75), .not (.t 74), none⟩,
     ⟨(some 76), .mov (.t 75), none⟩,
     ⟨(some 77), .mov (.t 5), (some (76, false))⟩,
     ⟨(some 78), .call (.c (.func (.func 28) [] [])) [(.t 77)], (some (76, false))⟩,
     ⟨(some 79), .mov (.t 6), (some (76, false))⟩,
     ⟨(some 80), .nilCheck (.t 79), (some (76, false))⟩,
     ⟨(some 81), .fieldAddr 1 (.t 80), (some (76, false))⟩,
     ⟨(some 82), .load1 (.t 81), (some (76, false))⟩,
     ⟨(some 83), .bin .neq .none (.t 78) (.t 82), (some (76, false))⟩,
     ⟨(some 84), .pick (.t 76) (.c (.bool true)) (.t 83), none⟩,
     ⟨(some 85), .mov (.t 84), none⟩,
     ⟨(some 86), .mov (.t 5), (some (85, false))⟩,
     ⟨(some 87), .call (.c (.func (.func 24) [] [])) [(.t 86)], (some (85, false))⟩,
     ⟨(some 88), .mov (.t 6), (some (85, false))⟩,
     ⟨(some 89), .call (.c (.func (.func 36) [] [])) [(.t 88)], (some (85, false))⟩,
     ⟨(some 90), .bin .neq .none (.t 87) (.t 89), (some (85, false))⟩,
     ⟨(some 91), .pick (.t 85) (.c (.bool true)) (.t 90), none⟩,
     ⟨(some 92), .mov (.t 91), none⟩,
     ⟨(some 93), .mov (.t 5), (some (92, false))⟩,
     ⟨(some 94), .call (.c (.func (.func 26) [] [])) [(.t 93)], (some (92, false))⟩,
     ⟨(some 95), .mov (.t 6), (some (92, false))⟩,
     ⟨(some 96), .call (.c (.func (.func 37) [] [])) [(.t 95)], (some (92, false))⟩,
     ⟨(some 97), .bin .neq .none (.t 94) (.t 96), (some (92, false))⟩,
     ⟨(some 98), .pick (.t 92) (.c (.bool true)) (.t 97), none⟩,
     ⟨(some 99), .mov (.t 98), none⟩,
     ⟨(some 100), .mov (.t 5), (some (99, false))⟩,
     ⟨(some 101), .call (.c (.func (.func 23) [] [])) [(.t 100)], (some (99, false))⟩,
     ⟨(some 102), .mov (.t 6), (some (99, false))⟩,
     ⟨(some 103), .nilCheck (.t 102), (some (99, false))⟩,
     ⟨(some 104), .fieldAddr 2 (.t 103), (some (99, false))⟩,
     ⟨(some 105), .load1 (.t 104), (some (99, false))⟩,
     ⟨(some 106), .bin .neq .none (.t 101) (.t 105), (some (99, false))⟩,
     ⟨(some 107), .pick (.t 99) (.c (.bool true)) (.t 106), none⟩])
   (.cond (.t 107)
    (.seq (.ops [⟨(some 4), .mov (.c (.bool false)), none⟩])
    (.ret))
    (.skip)))))))
  (.ops [⟨(some 28), .mov (.t 7), none⟩,
    ⟨(some 29), .bin .add .none (.t 28) (.c (.int .i64 1)), none⟩,
    ⟨(some 7), .mov (.t 29), none⟩]))
/-- live: [1, 5, 6, 7] -/
def f8_S0 (x1 x5 x6 x7 : AV) : List AV := [.junk, x1, .junk, .junk, .junk, x5, x6, x7, .junk, .junk, .junk, .junk, .junk, .junk, .junk, .junk, .junk, .junk, .junk, .junk, .junk, .junk, .junk, .junk, .junk, .junk, .junk, .junk, .junk, .junk, .junk, .junk, .junk, .junk, .junk, .junk, .junk, .junk, .junk, .junk, .junk, .junk, .junk, .junk, .junk, .junk, .junk, .junk, .junk, .junk, .junk, .junk, .junk, .junk, .junk, .junk, .junk, .junk, .junk, .junk, .junk, .junk, .junk, .junk, .junk, .junk, .junk, .junk, .junk, .junk, .junk, .junk, .junk, .junk, .junk, .junk, .junk, .junk, .junk, .junk, .junk, .junk, .junk, .junk, .junk, .junk, .junk, .junk, .junk, .junk, .junk, .junk, .junk, .junk, .junk, .junk, .junk, .junk, .junk, .junk, .junk, .junk, .junk, .junk, .junk, .junk, .junk, .junk]
def f8 : AFn := ⟨.seq (.ops [⟨(some 4), .mov (.c (.bool false)), none⟩])
  (.seq (.seq (.ops [⟨(some 10), .call (.c (.func (.func 12) [] [])) [], none⟩,
    ⟨(some 11), .not (.t 10), none⟩])
  (.cond (.t 11)
   (.seq (.ops [⟨(some 4), .mov (.c (.bool false)), none⟩])
   (.ret))
   (.skip)))
  (.seq (.seq (.ops [⟨(some 12), .mov (.t 0), none⟩,
    ⟨(some 13), .lenS (.t 12), none⟩,
    ⟨(some 14), .bin .gtr .none (.t 13) (.c (.int .i64 200)), none⟩,
    ⟨(some 15), .mov (.t 14), none⟩,
    ⟨(some 16), .mov (.t 1), (some (15, false))⟩,
    ⟨(some 17), .len (.t 16), (some (15, false))⟩,
    ⟨(some 18), .bin .gtr .none (.t 17) (.c (.int .i64 60)), (some (15, false))⟩,
    ⟨(some 19), .pick (.t 15) (.c (.bool true)) (.t 18), none⟩])
  (.cond (.t 19)
   (.seq (.ops [⟨(some 4), .mov (.c (.bool true)), none⟩])
   (.ret))
   (.skip)))
  (.seq (.ops [⟨(some 20), .mov (.t 0), none⟩,
    ⟨(some 21), .call (.c (.func (.func 22) [] [])) [(.t 20)], none⟩,
    ⟨(some 22), .mov (.t 0), none⟩,
    ⟨(some 23), .call (.c (.func (.func 31) [] [])) [(.t 22)], none⟩,
    ⟨(some 5), .mov (.t 21), none⟩,
    ⟨(some 6), .mov (.t 23), none⟩])
  (.seq (.seq (.ops [⟨(some 7), .mov (.c (.int .i64 0)), none⟩])
  (.block 0 (.loop f8_M0 f8_L0)))
  (.seq (.ops [⟨(some 4), .mov (.c (.bool true)), none⟩])
  (.ret)))))), 108, [.tmp 4]⟩
theorem f8_ok : compF Try.prog Try.f8 [[false, true, false, false, false, true, true, true, false, false, false, false, false, false, false, false, false, false, false, false, false, false, false, false, false, false, false, false, false, false, false, false, false, false, false, false, false, false, false, false, false, false, false, false, false, false, false, false, false, false, false, false, false, false, false, false, false, false, false, false, false, false, false, false, false, false, false, false, false, false, false, false, false, false, false, false, false, false, false, false, false, false, false, false, false, false, false, false, false, false, false, false, false, false, false, false, false, false, false, false, false, false, false, false, false, false, false, false]] = some f8 := by kernel_rfl

/-! 9: polyglot/polyglotlaw03.UstringBack -/
def f9 : AFn := ⟨.seq (.ops [⟨(some 6), .mov (.c (.bool false)), none⟩])
  (.seq (.seq (.ops [⟨(some 22), .call (.c (.func (.func 16) [] [])) [], none⟩,
    ⟨(some 23), .not (.t 22), none⟩])
  (.cond (.t 23)
   (.seq (.ops [⟨(some 6), .mov (.c (.bool false)), none⟩])
   (.ret))
   (.skip)))
  (.seq (.seq (.ops [⟨(some 24), .mov (.t 0), none⟩,
    ⟨(some 25), .lenS (.t 24), none⟩,
    ⟨(some 26), .bin .gtr .none (.t 25) (.c (.int .i64 70000)), none⟩,
    ⟨(some 27), .mov (.t 26), none⟩,
    ⟨(some 28), .mov (.t 1), (some (27, false))⟩,
    ⟨(some 29), .lenS (.t 28), (some (27, false))⟩,
    ⟨(some 30), .bin .gtr .none (.t 29) (.c (.int .i64 1000)), (some (27, false))⟩,
    ⟨(some 31), .pick (.t 27) (.c (.bool true)) (.t 30), none⟩,
    ⟨(some 32), .mov (.t 31), none⟩,
    ⟨(some 33), .mov (.t 2), (some (32, false))⟩,
    ⟨(some 34), .lenS (.t 33), (some (32, false))⟩,
    ⟨(some 35), .bin .gtr .none (.t 34) (.c (.int .i64 70000)), (some (32, false))⟩,
    ⟨(some 36), .pick (.t 32) (.c (.bool true)) (.t 35), none⟩])
  (.cond (.t 36)
   (.seq (.ops [⟨(some 6), .mov (.c (.bool true)), none⟩])
   (.ret))
   (.skip)))
  (.seq (.seq (.ops [⟨(some 38), .mov (.t 0), none⟩,
    ⟨(some 39), .call (.c (.func (.func 38) [] [])) [(.t 38)], none⟩,
    ⟨(some 37), .mov (.t 39), none⟩,
    ⟨(some 40), .extract (.t 37) 0, none⟩,
    ⟨(some 41), .extract (.t 37) 1, none⟩,
    ⟨(some 7), .mov (.t 40), none⟩,
    ⟨(some 8), .mov (.t 41), none⟩])
  (.seq (.ops [⟨(some 42), .mov (.t 8), none⟩,
    ⟨(some 43), .bin .eql .none (.t 42) (.c (.int .i64 0)), none⟩])
  (.cond (.t 43)
   (.seq (.ops [⟨(some 45), .mov (.t 7), none⟩,
     ⟨(some 46), .mov (.t 1), none⟩,
     ⟨(some 47), .bin .add .none (.t 45) (.t 46), none⟩,
     ⟨(some 48), .call (.c (.func (.func 39) [] [])) [(.t 47)], none⟩,
     ⟨(some 44), .mov (.t 48), none⟩,
     ⟨(some 49), .extract (.t 44) 0, none⟩,
     ⟨(some 50), .extract (.t 44) 1, none⟩,
     ⟨(some 51), .extract (.t 44) 2, none⟩,
     ⟨(some 9), .mov (.t 49), none⟩,
     ⟨(some 10), .mov (.t 50), none⟩,
     ⟨(some 11), .mov (.t 51), none⟩])
   (.seq (.ops [⟨(some 52), .mov (.t 11), none⟩,
     ⟨(some 53), .bin .neq .none (.t 52) (.c (.int .i64 0)), none⟩,
     ⟨(some 54), .mov (.t 53), none⟩,
     ⟨(some 55), .mov (.t 9), (some (54, false))⟩,
     ⟨(some 56), .mov (.t 0), (some (54, false))⟩,
     ⟨(some 57), .bin .neq .none (.t 55) (.t 56), (some (54, false))⟩,
     ⟨(some 58), .pick (.t 54) (.c (.bool true)) (.t 57), none⟩,
     ⟨(some 59), .mov (.t 58), none⟩,
     ⟨(some 60), .mov (.t 10), (some (59, false))⟩,
     ⟨(some 61), .mov (.t 0), (some (59, false))⟩,
     ⟨(some 62), .lenS (.t 61), (some (59, false))⟩,
     ⟨(some 63), .bin .add .none (.t 62) (.c (.int .i64 2)), (some (59, false))⟩,
     ⟨(some 64), .bin .neq .none (.t 60) (.t 63), (some (59, false))⟩,
     ⟨(some 65), .pick (.t 59) (.c (.bool true)) (.t 64), none⟩,
     ⟨(some 66), .mov (.t 65), none⟩,
     ⟨(some 67), .mov (.t 7), (some (66, false))⟩,
     ⟨(some 68), .lenS (.t 67), (some (66, false))⟩,
     ⟨(some 69), .mov (.t 10), (some (66, false))⟩,
     ⟨(some 70), .bin .neq .none (.t 68) (.t 69), (some (66, false))⟩,
     ⟨(some 71), .pick (.t 66) (.c (.bool true)) (.t 70), none⟩,
     ⟨(some 72), .mov (.t 71), none⟩,
     ⟨(some 73), .mov (.t 0), (some (72, false))⟩,
     ⟨(some 74), .call (.c (.func (.func 17) [] [])) [(.t 73)], (some (72, false))⟩,
     ⟨(some 75), .not (.t 74), (some (72, false))⟩,
     ⟨(some 76), .pick (.t 72) (.c (.bool true)) (.t 75), none⟩])
   (.cond (.t 76)
    (.seq (.ops [⟨(some 6), .mov (.c (.bool false)), none⟩])
    (.ret))
    (.skip))))
   (.seq (.ops [⟨(some 77), .mov (.t 0), none⟩,
     ⟨(some 78), .call (.c (.func (.func 17) [] [])) [(.t 77)], none⟩,
     ⟨(some 79), .mov (.t 78), none⟩,
     ⟨(some 80), .mov (.t 7), (some (79, false))⟩,
     ⟨(some 81), .bin .neq .none (.t 80) (.c (.str [])), (some (79, false))⟩,
     ⟨(some 82), .pick (.t 79) (.c (.bool true)) (.t 81), none⟩])
   (.cond (.t 82)
    (.seq (.ops [⟨(some 6), .mov (.c (.bool false)), none⟩])
    (.ret))
    (.skip))))))
  (.seq (.seq (.ops [⟨(some 84), .mov (.t 0), none⟩,
    ⟨(some 85), .call (.c (.func (.func 40) [] [])) [(.t 84)], none⟩,
    ⟨(some 83), .mov (.t 85), none⟩,
    ⟨(some 86), .extract (.t 83) 0, none⟩,
    ⟨(some 87), .extract (.t 83) 1, none⟩,
    ⟨(some 12), .mov (.t 86), none⟩,
    ⟨(some 13), .mov (.t 87), none⟩])
  (.seq (.ops [⟨(some 88), .mov (.t 13), none⟩,
    ⟨(some 89), .bin .eql .none (.t 88) (.c (.int .i64 0)), none⟩])
  (.cond (.t 89)
   (.seq (.ops [⟨(some 91), .mov (.t 12), none⟩,
     ⟨(some 92), .mov (.t 1), none⟩,
     ⟨(some 93), .bin .add .none (.t 91) (.t 92), none⟩,
     ⟨(some 94), .call (.c (.func (.func 41) [] [])) [(.t 93)], none⟩,
     ⟨(some 90), .mov (.t 94), none⟩,
     ⟨(some 95), .extract (.t 90) 0, none⟩,
     ⟨(some 96), .extract (.t 90) 1, none⟩,
     ⟨(some 97), .extract (.t 90) 2, none⟩,
     ⟨(some 14), .mov (.t 95), none⟩,
     ⟨(some 15), .mov (.t 96), none⟩,
     ⟨(some 16), .mov (.t 97), none⟩])
   (.seq (.ops [⟨(some 98), .mov (.t 16), none⟩,
     ⟨(some 99), .bin .neq .none (.t 98) (.c (.int .i64 0)), none⟩,
     ⟨(some 100), .mov (.t 99), none⟩,
     ⟨(some 101), .mov (.t 14), (some (100, false))⟩,
     ⟨(some 102), .mov (.t 0), (some (100, false))⟩,
     ⟨(some 103), .bin .neq .none (.t 101) (.t 102), (some (100, false))⟩,
     ⟨(some 104), .pick (.t 100) (.c (.bool true)) (.t 103), none⟩,
     ⟨(some 105), .mov (.t 104), none⟩,
     ⟨(some 106), .mov (.t 15), (some (105, false))⟩,
     ⟨(some 107), .mov (.t 0), (some (105, false))⟩,
     ⟨(some 108), .lenS (.t 107), (some (105, false))⟩,
     ⟨(some 109), .bin .add .none (.t 108) (.c (.int .i64 2)), (some (105, false))⟩,
     ⟨(some 110), .bin .neq .none (.t 106) (.t 109), (some (105, false))⟩,
     ⟨(some 111), .pick (.t 105) (.c (.bool true)) (.t 110), none⟩,
     ⟨(some 112), .mov (.t 111), none⟩,
     ⟨(some 113), .mov (.t 12), (some (112, false))⟩,
     ⟨(some 114), .lenS (.t 113), (some (112, false))⟩,
     ⟨(some 115), .mov (.t 15), (some (112, false))⟩,
     ⟨(some 116), .bin .neq .none (.t 114) (.t 115), (some (112, false))⟩,
     ⟨(some 117), .pick (.t 112) (.c (.bool true)) (.t 116), none⟩])
   (.cond (.t 117)
    (.seq (.ops [⟨(some 6), .mov (.c (.bool false)), none⟩])
    (.ret))
    (.skip))))
   (.seq (.ops [⟨(some 118), .mov (.t 0), none⟩,
     ⟨(some 119), .lenS (.t 118), none⟩,
     ⟨(some 120), .bin .leq .none (.t 119) (.c (.int .i64 65535)), none⟩])
   (.cond (.t 120)
    (.seq (.ops [⟨(some 6), .mov (.c (.bool false)), none⟩])
    (.ret))
    (.skip))))))
  (.seq (.ops [⟨(some 122), .mov (.t 2), none⟩,
    ⟨(some 123), .call (.c (.func (.func 39) [] [])) [(.t 122)], none⟩,
    ⟨(some 121), .mov (.t 123), none⟩,
    ⟨(some 124), .extract (.t 121) 0, none⟩,
    ⟨(some 125), .extract (.t 121) 1, none⟩,
    ⟨(some 126), .extract (.t 121) 2, none⟩,
    ⟨(some 17), .mov (.t 124), none⟩,
    ⟨(some 18), .mov (.t 125), none⟩,
    ⟨(some 19), .mov (.t 126), none⟩])
  (.seq (.seq (.ops [⟨(some 127), .mov (.t 19), none⟩,
    ⟨(some 128), .bin .neq .none (.t 127) (.c (.int .i64 0)), none⟩])
  (.cond (.t 128)
   (.seq (.ops [⟨(some 129), .mov (.t 17), none⟩,
     ⟨(some 130), .bin .eql .none (.t 129) (.c (.str [])), none⟩,
     ⟨(some 131), .mov (.t 130), none⟩,
     ⟨(some 132), .mov (.t 18), (some (131, true))⟩,
     ⟨(some 133), .bin .eql .none (.t 132) (.c (.int .i64 0)), (some (131, true))⟩,
     ⟨(some 134), .pick (.t 131) (.t 133) (.c (.bool false)), none⟩,
     ⟨(some 6), .mov (.t 134), none⟩])
   (.ret))
   (.skip)))
  (.seq (.ops [⟨(some 136), .mov (.t 17), none⟩,
    ⟨(some 137), .call (.c (.func (.func 38) [] [])) [(.t 136)], none⟩,
    ⟨(some 135), .mov (.t 137), none⟩,
    ⟨(some 138), .extract (.t 135) 0, none⟩,
    ⟨(some 139), .extract (.t 135) 1, none⟩,
    ⟨(some 20), .mov (.t 138), none⟩,
    ⟨(some 21), .mov (.t 139), none⟩])
  (.seq (.ops [⟨(some 140), .mov (.t 21), none⟩,
    ⟨(some 141), .bin .eql .none (.t 140) (.c (.int .i64 0)), none⟩,
    ⟨(some 142), .mov (.t 141), none⟩,
    ⟨(some 143), .mov (.t 18), (some (142, true))⟩,
    ⟨(some 144), .mov (.t 2), (some (142, true))⟩,
    ⟨(some 145), .lenS (.t 144), (some (142, true))⟩,
    ⟨(some 146), .bin .leq .none (.t 143) (.t 145), (some (142, true))⟩,
    ⟨(some 147), .pick (.t 142) (.t 146) (.c (.bool false)), none⟩,
    ⟨(some 148), .mov (.t 147), none⟩,
    ⟨(some 149), .mov (.t 20), (some (148, true))⟩,
    ⟨(some 150), .mov (.t 2), (some (148, true))⟩,
    ⟨(some 151), .mov (.t 18), (some (148, true))⟩,
    ⟨(some 152), .substr (.t 150) none (some (.t 151)), (some (148, true))⟩,
    ⟨(some 153), .bin .eql .none (.t 149) (.t 152), (some (148, true))⟩,
    ⟨(some 154), .pick (.t 148) (.t 153) (.c (.bool false)), none⟩,
    ⟨(some 6), .mov (.t 154), none⟩])
  (.ret))))))))), 155, [.tmp 6]⟩
theorem f9_ok : compF Try.prog Try.f9 [] = some f9 := by kernel_rfl

/-! 10: polyglot/polyglotlaw03.UstringNames -/
def f10_M0 : List Bool := [false, true, true, false, false, false, false, false, false, false, false, false, false, false, false, false, false, false, false, false, false, false, false, false, false, false, false, false, false, false, false, false, false, false, false, false, false, false, false, false, false, false, false, false, false, false, false, false, false, false, false, false, false, false, false, false, false, false, false, false, false, false, false, false, false, false, false, false, false, false, false, false, false, false, false, false, false, false, false, false, false, false, false, false, false, false, false, false, false, false, false, false, false, false, false, false, false, false, false, false, false, false, false, false, false, false, false, false, false, false, false, false, false, false, false, false, false, false, false, false, false, false, false, false, false, false, false, false, false, false, false, false, false, false, false, false, false, false, false, false, false, false, false, false, false, false, false, false, false, false, false, false, false, false, false, false, false, false, false, false, false, false, false, false, false, false, false, false, false, false, false, false, false]
def f10_L0 : AC := .seq (.seq (.ops [⟨(some 30), .mov (.t 2), none⟩,
    ⟨(some 31), .mov (.t 1), none⟩,
    ⟨(some 32), .len (.t 31), none⟩,
    ⟨(some 33), .bin .lss .none (.t 30) (.t 32), none⟩])
  (.cond (.t 33)
   (.skip)
   (.exit 0)))
  (.seq (.block 1 (.seq (.ops [⟨(some 36), .mov (.t 1), none⟩,
     ⟨(some 37), .mov (.t 2), none⟩,
     ⟨(some 38), .indexAddr 1 (.t 36) (.t 37), none⟩,
     ⟨(some 39), .load1 (.t 38), none⟩,
     ⟨(some 40), .call (.c (.func (.func 17) [] [])) [(.t 39)], none⟩,
     ⟨(some 41), .mov (.t 40), none⟩,
     ⟨(some 42), .mov (.t 1), (some (41, false))⟩,
     ⟨(some 43), .mov (.t 2), (some (41, false))⟩,
     ⟨(some 44), .indexAddr 1 (.t 42) (.t 43), (some (41, false))⟩,
     ⟨(some 45), .load1 (.t 44), (some (41, false))⟩,
     ⟨(some 46), .call (.c (.func (.func 18) [] [])) [(.t 45)], (some (41, false))⟩,
     ⟨(some 47), .bin .neq .none (.t 46) (.c (.int .i64 0)), (some (41, false))⟩,
     ⟨(some 48), .pick (.t 41) (.c (.bool true)) (.t 47), none⟩])
   (.cond (.t 48)
    (.seq (.ops [⟨(some 0), .mov (.c (.bool false)), none⟩])
    (.ret))
    (.skip))))
  (.ops [⟨(some 34), .mov (.t 2), none⟩,
    ⟨(some 35), .bin .add .none (.t 34) (.c (.int .i64 1)), none⟩,
    ⟨(some 2), .mov (.t 35), none⟩]))
/-- live: [1, 2] -/
def f10_S0 (x1 x2 : AV) : List AV := [.junk, x1, x2, .junk, .junk, .junk, .junk, .junk, .junk, .junk, .junk, .junk, .junk, .junk, .junk, .junk, .junk, .junk, .junk, .junk, .junk, .junk, .junk, .junk, .junk, .junk, .junk, .junk, .junk, .junk, .junk, .junk, .junk, .junk, .junk, .junk, .junk, .junk, .junk, .junk, .junk, .junk, .junk, .junk, .junk, .junk, .junk, .junk, .junk, .junk, .junk, .junk, .junk, .junk, .junk, .junk, .junk, .junk, .junk, .junk, .junk, .junk, .junk, .junk, .junk, .junk, .junk, .junk, .junk, .junk, .junk, .junk, .junk, .junk, .junk, .junk, .junk, .junk, .junk, .junk, .junk, .junk, .junk, .junk, .junk, .junk, .junk, .junk, .junk, .junk, .junk, .junk, .junk, .junk, .junk, .junk, .junk, .junk, .junk, .junk, .junk, .junk, .junk, .junk, .junk, .junk, .junk, .junk, .junk, .junk, .junk, .junk, .junk, .junk, .junk, .junk, .junk, .junk, .junk, .junk, .junk, .junk, .junk, .junk, .junk, .junk, .junk, .junk, .junk, .junk, .junk, .junk, .junk, .junk, .junk, .junk, .junk, .junk, .junk, .junk, .junk, .junk, .junk, .junk, .junk, .junk, .junk, .junk, .junk, .junk, .junk, .junk, .junk, .junk, .junk, .junk, .junk, .junk, .junk, .junk, .junk, .junk, .junk, .junk, .junk, .junk, .junk, .junk, .junk, .junk, .junk, .junk, .junk]
def f10 : AFn := ⟨.seq (.ops [⟨(some 0), .mov (.c (.bool false)), none⟩])
  (.seq (.seq (.ops [⟨(some 27), .call (.c (.func (.func 16) [] [])) [], none⟩,
    ⟨(some 28), .not (.t 27), none⟩])
  (.cond (.t 28)
   (.seq (.ops [⟨(some 0), .mov (.c (.bool false)), none⟩])
   (.ret))
   (.skip)))
  (.seq (.ops [⟨(some 29), .buildSlice 1 9 (List.replicate 9 (.junk)) [(0, 1, (.c (.str [0]))), (1, 1, (.c (.str [97, 0]))), (2, 1, (.c (.str [237, 160, 128]))), (3, 1, (.c (.str [244, 144, 128, 128]))), (4, 1, (.c (.str [224, 128, 128]))), (5, 1, (.c (.str [195]))), (6, 1, (.c (.str [128]))), (7, 1, (.c (.str [255]))), (8, 1, (.c (.str [97, 98, 226, 130])))], none⟩,
    ⟨(some 1), .mov (.t 29), none⟩])
  (.seq (.seq (.ops [⟨(some 2), .mov (.c (.int .i64 0)), none⟩])
  (.block 0 (.loop f10_M0 f10_L0)))
  (.seq (.ops [⟨(some 49), .call (.c (.func (.func 42) [] [])) [(.c (.str [97])), (.c (.int .i64 65536))], none⟩,
    ⟨(some 3), .mov (.t 49), none⟩])
  (.seq (.ops [⟨(some 51), .mov (.t 3), none⟩,
    ⟨(some 52), .call (.c (.func (.func 38) [] [])) [(.t 51)], none⟩,
    ⟨(some 50), .mov (.t 52), none⟩,
    ⟨(some 53), .extract (.t 50) 0, none⟩,
    ⟨(some 54), .extract (.t 50) 1, none⟩,
    ⟨(some 4), .mov (.t 53), none⟩,
    ⟨(some 5), .mov (.t 54), none⟩])
  (.seq (.ops [⟨(some 56), .mov (.t 3), none⟩,
    ⟨(some 57), .call (.c (.func (.func 40) [] [])) [(.t 56)], none⟩,
    ⟨(some 55), .mov (.t 57), none⟩,
    ⟨(some 58), .extract (.t 55) 0, none⟩,
    ⟨(some 59), .extract (.t 55) 1, none⟩,
    ⟨(some 6), .mov (.t 58), none⟩,
    ⟨(some 7), .mov (.t 59), none⟩])
  (.seq (.ops [⟨(some 61), .mov (.t 3), none⟩,
    ⟨(some 62), .substr (.t 61) (some (.c (.int .i64 1))) none, none⟩,
    ⟨(some 63), .call (.c (.func (.func 40) [] [])) [(.t 62)], none⟩,
    ⟨(some 60), .mov (.t 63), none⟩,
    ⟨(some 64), .extract (.t 60) 0, none⟩,
    ⟨(some 65), .extract (.t 60) 1, none⟩,
    ⟨(some 8), .mov (.t 64), none⟩,
    ⟨(some 9), .mov (.t 65), none⟩])
  (.seq (.ops [⟨(some 67), .call (.c (.func (.func 39) [] [])) [(.c (.str [0]))], none⟩,
    ⟨(some 66), .mov (.t 67), none⟩,
    ⟨(some 68), .extract (.t 66) 0, none⟩,
    ⟨(some 69), .extract (.t 66) 1, none⟩,
    ⟨(some 70), .extract (.t 66) 2, none⟩,
    ⟨(some 10), .mov (.t 68), none⟩,
    ⟨(some 11), .mov (.t 69), none⟩,
    ⟨(some 12), .mov (.t 70), none⟩])
  (.seq (.ops [⟨(some 72), .call (.c (.func (.func 39) [] [])) [(.c (.str [0, 2, 97]))], none⟩,
    ⟨(some 71), .mov (.t 72), none⟩,
    ⟨(some 73), .extract (.t 71) 0, none⟩,
    ⟨(some 74), .extract (.t 71) 1, none⟩,
    ⟨(some 75), .extract (.t 71) 2, none⟩,
    ⟨(some 13), .mov (.t 73), none⟩,
    ⟨(some 14), .mov (.t 74), none⟩,
    ⟨(some 15), .mov (.t 75), none⟩])
  (.seq (.ops [⟨(some 77), .call (.c (.func (.func 39) [] [])) [(.c (.str [0, 2, 192, 128, 122]))], none⟩,
    ⟨(some 76), .mov (.t 77), none⟩,
    ⟨(some 78), .extract (.t 76) 0, none⟩,
    ⟨(some 79), .extract (.t 76) 1, none⟩,
    ⟨(some 80), .extract (.t 76) 2, none⟩,
    ⟨(some 16), .mov (.t 78), none⟩,
    ⟨(some 17), .mov (.t 79), none⟩,
    ⟨(some 18), .mov (.t 80), none⟩])
  (.seq (.ops [⟨(some 82), .call (.c (.func (.func 39) [] [])) [(.c (.str [0, 3, 226, 130, 172, 122]))], none⟩,
    ⟨(some 81), .mov (.t 82), none⟩,
    ⟨(some 83), .extract (.t 81) 0, none⟩,
    ⟨(some 84), .extract (.t 81) 1, none⟩,
    ⟨(some 85), .extract (.t 81) 2, none⟩,
    ⟨(some 19), .mov (.t 83), none⟩,
    ⟨(some 20), .mov (.t 84), none⟩,
    ⟨(some 21), .mov (.t 85), none⟩])
  (.seq (.ops [⟨(some 87), .call (.c (.func (.func 41) [] [])) [(.c (.str [0, 2, 192, 128, 122]))], none⟩,
    ⟨(some 86), .mov (.t 87), none⟩,
    ⟨(some 88), .extract (.t 86) 0, none⟩,
    ⟨(some 89), .extract (.t 86) 1, none⟩,
    ⟨(some 90), .extract (.t 86) 2, none⟩,
    ⟨(some 22), .mov (.t 88), none⟩,
    ⟨(some 23), .mov (.t 89), none⟩,
    ⟨(some 24), .mov (.t 90), none⟩])
  (.seq (.ops [⟨(some 92), .call (.c (.func (.func 20) [] [])) [(.c (.str [97, 226, 130, 172, 240, 159, 152, 128]))], none⟩,
    ⟨(some 91), .mov (.t 92), none⟩,
    ⟨(some 93), .extract (.t 91) 0, none⟩,
    ⟨(some 94), .extract (.t 91) 1, none⟩,
    ⟨(some 25), .mov (.t 93), none⟩,
    ⟨(some 26), .mov (.t 94), none⟩])
  (.seq (.ops [⟨(some 95), .mov (.t 5), none⟩,
    ⟨(some 96), .bin .eql .none (.t 95) (.c (.int .i64 6)), none⟩,
    ⟨(some 97), .mov (.t 96), none⟩,
    ⟨(some 98), .mov (.t 7), (some (97, true))⟩,
    ⟨(some 99), .bin .eql .none (.t 98) (.c (.int .i64 2)), (some (97, true))⟩,
    ⟨(some 100), .pick (.t 97) (.t 99) (.c (.bool false)), none⟩,
    ⟨(some 101), .mov (.t 100), none⟩,
    ⟨(some 102), .mov (.t 9), (some (101, true))⟩,
    ⟨(some 103), .bin .eql .none (.t 102) (.c (.int .i64 0)), (some (101, true))⟩,
    ⟨(some 104), .pick (.t 101) (.t 103) (.c (.bool false)), none⟩,
    ⟨(some 105), .mov (.t 104), none⟩,
    ⟨(some 106), .mov (.t 3), (some (105, true))⟩,
    ⟨(some 107), .call (.c (.func (.func 19) [] [])) [(.t 106)], (some (105, true))⟩,
    ⟨(some 108), .bin .eql .none (.t 107) (.c (.int .i64 (-1))), (some (105, true))⟩,
    ⟨(some 109), .pick (.t 105) (.t 108) (.c (.bool false)), none⟩,
    ⟨(some 110), .mov (.t 109), none⟩,
    ⟨(some 111), .mov (.t 3), (some (110, true))⟩,
    ⟨(some 112), .call (.c (.func (.func 17) [] [])) [(.t 111)], (some (110, true))⟩,
    ⟨(some 113), .not (.t 112), (some (110, true))⟩,
    ⟨(some 114), .pick (.t 110) (.t 113) (.c (.bool false)), none⟩,
    ⟨(some 115), .mov (.t 114), none⟩,
    ⟨(some 116), .call (.c (.func (.func 19) [] [])) [(.c (.str [97, 98, 255]))], (some (115, true))⟩,
    ⟨(some 117), .bin .eql .none (.t 116) (.c (.int .i64 2)), (some (115, true))⟩,
    ⟨(some 118), .pick (.t 115) (.t 117) (.c (.bool false)), none⟩,
    ⟨(some 119), .mov (.t 118), none⟩,
    ⟨(some 120), .mov (.t 12), (some (119, true))⟩,
    ⟨(some 121), .bin .eql .none (.t 120) (.c (.int .i64 3)), (some (119, true))⟩,
    ⟨(some 122), .pick (.t 119) (.t 121) (.c (.bool false)), none⟩,
    ⟨(some 123), .mov (.t 122), none⟩,
    ⟨(some 124), .mov (.t 15), (some (123, true))⟩,
    ⟨(some 125), .bin .eql .none (.t 124) (.c (.int .i64 3)), (some (123, true))⟩,
    ⟨(some 126), .pick (.t 123) (.t 125) (.c (.bool false)), none⟩,
    ⟨(some 127), .mov (.t 126), none⟩,
    ⟨(some 128), .mov (.t 18), (some (127, true))⟩,
    ⟨(some 129), .bin .eql .none (.t 128) (.c (.int .i64 6)), (some (127, true))⟩,
    ⟨(some 130), .pick (.t 127) (.t 129) (.c (.bool false)), none⟩,
    ⟨(some 131), .mov (.t 130), none⟩,
    ⟨(some 132), .mov (.t 21), (some (131, true))⟩,
    ⟨(some 133), .bin .eql .none (.t 132) (.c (.int .i64 0)), (some (131, true))⟩,
    ⟨(some 134), .pick (.t 131) (.t 133) (.c (.bool false)), none⟩,
    ⟨(some 135), .mov (.t 134), none⟩,
    ⟨(some 136), .mov (.t 20), (some (135, true))⟩,
    ⟨(some 137), .bin .eql .none (.t 136) (.c (.int .i64 5)), (some (135, true))⟩,
    ⟨(some 138), .pick (.t 135) (.t 137) (.c (.bool false)), none⟩,
    ⟨(some 139), .mov (.t 138), none⟩,
    ⟨(some 140), .mov (.t 19), (some (139, true))⟩,
    ⟨(some 141), .bin .eql .none (.t 140) (.c (.str [226, 130, 172])), (some (139, true))⟩,
    ⟨(some 142), .pick (.t 139) (.t 141) (.c (.bool false)), none⟩,
    ⟨(some 143), .mov (.t 142), none⟩,
    ⟨(some 144), .mov (.t 24), (some (143, true))⟩,
    ⟨(some 145), .bin .eql .none (.t 144) (.c (.int .i64 0)), (some (143, true))⟩,
    ⟨(some 146), .pick (.t 143) (.t 145) (.c (.bool false)), none⟩,
    ⟨(some 147), .mov (.t 146), none⟩,
    ⟨(some 148), .mov (.t 23), (some (147, true))⟩,
    ⟨(some 149), .bin .eql .none (.t 148) (.c (.int .i64 4)), (some (147, true))⟩,
    ⟨(some 150), .pick (.t 147) (.t 149) (.c (.bool false)), none⟩,
    ⟨(some 151), .mov (.t 150), none⟩,
    ⟨(some 152), .mov (.t 22), (some (151, true))⟩,
    ⟨(some 153), .bin .eql .none (.t 152) (.c (.str [192, 128])), (some (151, true))⟩,
    ⟨(some 154), .pick (.t 151) (.t 153) (.c (.bool false)), none⟩,
    ⟨(some 155), .mov (.t 154), none⟩,
    ⟨(some 156), .call (.c (.func (.func 18) [] [])) [(.c (.str [97, 226, 130, 172]))], (some (155, true))⟩,
    ⟨(some 157), .bin .eql .none (.t 156) (.c (.int .i64 2)), (some (155, true))⟩,
    ⟨(some 158), .pick (.t 155) (.t 157) (.c (.bool false)), none⟩,
    ⟨(some 159), .mov (.t 158), none⟩,
    ⟨(some 160), .call (.c (.func (.func 17) [] [])) [(.c (.str []))], (some (159, true))⟩,
    ⟨(some 161), .pick (.t 159) (.t 160) (.c (.bool false)), none⟩,
    ⟨(some 162), .mov (.t 161), none⟩,
    ⟨(some 163), .mov (.t 26), (some (162, true))⟩,
    ⟨(some 164), .pick (.t 162) (.t 163) (.c (.bool false)), none⟩,
    ⟨(some 165), .mov (.t 164), none⟩,
    ⟨(some 166), .mov (.t 25), (some (165, true))⟩,
    ⟨(some 167), .build [.int .i64 0, .int .i32 0] [(0, 1, (.c (.int .i64 0))), (1, 1, (.c (.int .i32 97)))], (some (165, true))⟩,
    ⟨(some 168), .build [.int .i64 0, .int .i32 0] [(0, 1, (.c (.int .i64 1))), (1, 1, (.c (.int .i32 8364)))], (some (165, true))⟩,
    ⟨(some 169), .build [.int .i64 0, .int .i32 0] [(0, 1, (.c (.int .i64 4))), (1, 1, (.c (.int .i32 128512)))], (some (165, true))⟩,
    ⟨(some 170), .buildSlice 2 3 (List.replicate 6 (.junk)) [(0, 2, (.t 167)), (2, 2, (.t 168)), (4, 2, (.t 169))], (some (165, true))⟩,
    ⟨(some 171), .call (.c (.func (.func 43) [] [])) [(.t 166), (.t 170)], (some (165, true))⟩,
    ⟨(some 172), .pick (.t 165) (.t 171) (.c (.bool false)), none⟩,
    ⟨(some 0), .mov (.t 172), none⟩])
  (.ret))))))))))))))), 173, [.tmp 0]⟩
theorem f10_ok : compF Try.prog Try.f10 [[false, true, true, false, false, false, false, false, false, false, false, false, false, false, false, false, false, false, false, false, false, false, false, false, false, false, false, false, false, false, false, false, false, false, false, false, false, false, false, false, false, false, false, false, false, false, false, false, false, false, false, false, false, false, false, false, false, false, false, false, false, false, false, false, false, false, false, false, false, false, false, false, false, false, false, false, false, false, false, false, false, false, false, false, false, false, false, false, false, false, false, false, false, false, false, false, false, false, false, false, false, false, false, false, false, false, false, false, false, false, false, false, false, false, false, false, false, false, false, false, false, false, false, false, false, false, false, false, false, false, false, false, false, false, false, false, false, false, false, false, false, false, false, false, false, false, false, false, false, false, false, false, false, false, false, false, false, false, false, false, false, false, false, false, false, false, false, false, false, false, false, false, false]] = some f10 := by kernel_rfl

/-! 11: polyglot/polyglotlaw03.UstringCalls -/
def f11 : AFn := ⟨.seq (.ops [⟨(some 4), .mov (.c (.bool false)), none⟩])
  (.seq (.seq (.ops [⟨(some 27), .call (.c (.func (.func 16) [] [])) [], none⟩,
    ⟨(some 28), .not (.t 27), none⟩])
  (.cond (.t 28)
   (.seq (.ops [⟨(some 4), .mov (.c (.bool false)), none⟩])
   (.ret))
   (.skip)))
  (.seq (.seq (.ops [⟨(some 29), .mov (.t 0), none⟩,
    ⟨(some 30), .lenS (.t 29), none⟩,
    ⟨(some 31), .bin .gtr .none (.t 30) (.c (.int .i64 70000)), none⟩,
    ⟨(some 32), .mov (.t 31), none⟩,
    ⟨(some 33), .mov (.t 1), (some (32, false))⟩,
    ⟨(some 34), .lenS (.t 33), (some (32, false))⟩,
    ⟨(some 35), .bin .gtr .none (.t 34) (.c (.int .i64 70000)), (some (32, false))⟩,
    ⟨(some 36), .pick (.t 32) (.c (.bool true)) (.t 35), none⟩])
  (.cond (.t 36)
   (.seq (.ops [⟨(some 4), .mov (.c (.bool true)), none⟩])
   (.ret))
   (.skip)))
  (.seq (.ops [⟨(some 38), .mov (.t 0), none⟩,
    ⟨(some 39), .call (.c (.func (.func 38) [] [])) [(.t 38)], none⟩,
    ⟨(some 37), .mov (.t 39), none⟩,
    ⟨(some 40), .extract (.t 37) 0, none⟩,
    ⟨(some 41), .extract (.t 37) 1, none⟩,
    ⟨(some 5), .mov (.t 40), none⟩,
    ⟨(some 6), .mov (.t 41), none⟩])
  (.seq (.ops [⟨(some 43), .mov (.t 0), none⟩,
    ⟨(some 44), .call (.c (.func (.func 44) [] [])) [(.t 43)], none⟩,
    ⟨(some 42), .mov (.t 44), none⟩,
    ⟨(some 45), .extract (.t 42) 0, none⟩,
    ⟨(some 46), .extract (.t 42) 1, none⟩,
    ⟨(some 7), .mov (.t 45), none⟩,
    ⟨(some 8), .mov (.t 46), none⟩])
  (.seq (.ops [⟨(some 48), .mov (.t 0), none⟩,
    ⟨(some 49), .call (.c (.func (.func 40) [] [])) [(.t 48)], none⟩,
    ⟨(some 47), .mov (.t 49), none⟩,
    ⟨(some 50), .extract (.t 47) 0, none⟩,
    ⟨(some 51), .extract (.t 47) 1, none⟩,
    ⟨(some 9), .mov (.t 50), none⟩,
    ⟨(some 10), .mov (.t 51), none⟩])
  (.seq (.ops [⟨(some 53), .mov (.t 0), none⟩,
    ⟨(some 54), .call (.c (.func (.func 45) [] [])) [(.t 53)], none⟩,
    ⟨(some 52), .mov (.t 54), none⟩,
    ⟨(some 55), .extract (.t 52) 0, none⟩,
    ⟨(some 56), .extract (.t 52) 1, none⟩,
    ⟨(some 11), .mov (.t 55), none⟩,
    ⟨(some 12), .mov (.t 56), none⟩])
  (.seq (.ops [⟨(some 58), .mov (.t 1), none⟩,
    ⟨(some 59), .call (.c (.func (.func 39) [] [])) [(.t 58)], none⟩,
    ⟨(some 57), .mov (.t 59), none⟩,
    ⟨(some 60), .extract (.t 57) 0, none⟩,
    ⟨(some 61), .extract (.t 57) 1, none⟩,
    ⟨(some 62), .extract (.t 57) 2, none⟩,
    ⟨(some 13), .mov (.t 60), none⟩,
    ⟨(some 14), .mov (.t 61), none⟩,
    ⟨(some 15), .mov (.t 62), none⟩])
  (.seq (.ops [⟨(some 64), .mov (.t 1), none⟩,
    ⟨(some 65), .call (.c (.func (.func 46) [] [])) [(.t 64)], none⟩,
    ⟨(some 63), .mov (.t 65), none⟩,
    ⟨(some 66), .extract (.t 63) 0, none⟩,
    ⟨(some 67), .extract (.t 63) 1, none⟩,
    ⟨(some 68), .extract (.t 63) 2, none⟩,
    ⟨(some 16), .mov (.t 66), none⟩,
    ⟨(some 17), .mov (.t 67), none⟩,
    ⟨(some 18), .mov (.t 68), none⟩])
  (.seq (.ops [⟨(some 70), .mov (.t 1), none⟩,
    ⟨(some 71), .call (.c (.func (.func 41) [] [])) [(.t 70)], none⟩,
    ⟨(some 69), .mov (.t 71), none⟩,
    ⟨(some 72), .extract (.t 69) 0, none⟩,
    ⟨(some 73), .extract (.t 69) 1, none⟩,
    ⟨(some 74), .extract (.t 69) 2, none⟩,
    ⟨(some 19), .mov (.t 72), none⟩,
    ⟨(some 20), .mov (.t 73), none⟩,
    ⟨(some 21), .mov (.t 74), none⟩])
  (.seq (.ops [⟨(some 76), .mov (.t 1), none⟩,
    ⟨(some 77), .call (.c (.func (.func 47) [] [])) [(.t 76)], none⟩,
    ⟨(some 75), .mov (.t 77), none⟩,
    ⟨(some 78), .extract (.t 75) 0, none⟩,
    ⟨(some 79), .extract (.t 75) 1, none⟩,
    ⟨(some 80), .extract (.t 75) 2, none⟩,
    ⟨(some 22), .mov (.t 78), none⟩,
    ⟨(some 23), .mov (.t 79), none⟩,
    ⟨(some 24), .mov (.t 80), none⟩])
  (.seq (.ops [⟨(some 82), .mov (.t 0), none⟩,
    ⟨(some 83), .call (.c (.func (.func 20) [] [])) [(.t 82)], none⟩,
    ⟨(some 81), .mov (.t 83), none⟩,
    ⟨(some 84), .extract (.t 81) 0, none⟩,
    ⟨(some 85), .extract (.t 81) 1, none⟩,
    ⟨(some 25), .mov (.t 84), none⟩,
    ⟨(some 26), .mov (.t 85), none⟩])
  (.seq (.ops [⟨(some 86), .mov (.t 5), none⟩,
    ⟨(some 87), .mov (.t 7), none⟩,
    ⟨(some 88), .bin .eql .none (.t 86) (.t 87), none⟩,
    ⟨(some 89), .mov (.t 88), none⟩,
    ⟨(some 90), .mov (.t 6), (some (89, true))⟩,
    ⟨(some 91), .mov (.t 8), (some (89, true))⟩,
    ⟨(some 92), .bin .eql .none (.t 90) (.t 91), (some (89, true))⟩,
    ⟨(some 93), .pick (.t 89) (.t 92) (.c (.bool false)), none⟩,
    ⟨(some 94), .mov (.t 93), none⟩,
    ⟨(some 95), .mov (.t 9), (some (94, true))⟩,
    ⟨(some 96), .mov (.t 11), (some (94, true))⟩,
    ⟨(some 97), .bin .eql .none (.t 95) (.t 96), (some (94, true))⟩,
    ⟨(some 98), .pick (.t 94) (.t 97) (.c (.bool false)), none⟩,
    ⟨(some 99), .mov (.t 98), none⟩,
    ⟨(some 100), .mov (.t 10), (some (99, true))⟩,
    ⟨(some 101), .mov (.t 12), (some (99, true))⟩,
    ⟨(some 102), .bin .eql .none (.t 100) (.t 101), (some (99, true))⟩,
    ⟨(some 103), .pick (.t 99) (.t 102) (.c (.bool false)), none⟩,
    ⟨(some 104), .mov (.t 103), none⟩,
    ⟨(some 105), .mov (.t 13), (some (104, true))⟩,
    ⟨(some 106), .mov (.t 16), (some (104, true))⟩,
    ⟨(some 107), .bin .eql .none (.t 105) (.t 106), (some (104, true))⟩,
    ⟨(some 108), .pick (.t 104) (.t 107) (.c (.bool false)), none⟩,
    ⟨(some 109), .mov (.t 108), none⟩,
    ⟨(some 110), .mov (.t 14), (some (109, true))⟩,
    ⟨(some 111), .mov (.t 17), (some (109, true))⟩,
    ⟨(some 112), .bin .eql .none (.t 110) (.t 111), (some (109, true))⟩,
    ⟨(some 113), .pick (.t 109) (.t 112) (.c (.bool false)), none⟩,
    ⟨(some 114), .mov (.t 113), none⟩,
    ⟨(some 115), .mov (.t 15), (some (114, true))⟩,
    ⟨(some 116), .mov (.t 18), (some (114, true))⟩,
    ⟨(some 117), .bin .eql .none (.t 115) (.t 116), (some (114, true))⟩,
    ⟨(some 118), .pick (.t 114) (.t 117) (.c (.bool false)), none⟩,
    ⟨(some 119), .mov (.t 118), none⟩,
    ⟨(some 120), .mov (.t 19), (some (119, true))⟩,
    ⟨(some 121), .mov (.t 22), (some (119, true))⟩,
    ⟨(some 122), .bin .eql .none (.t 120) (.t 121), (some (119, true))⟩,
    ⟨(some 123), .pick (.t 119) (.t 122) (.c (.bool false)), none⟩,
    ⟨(some 124), .mov (.t 123), none⟩,
    ⟨(some 125), .mov (.t 20), (some (124, true))⟩,
    ⟨(some 126), .mov (.t 23), (some (124, true))⟩,
    ⟨(some 127), .bin .eql .none (.t 125) (.t 126), (some (124, true))⟩,
    ⟨(some 128), .pick (.t 124) (.t 127) (.c (.bool false)), none⟩,
    ⟨(some 129), .mov (.t 128), none⟩,
    ⟨(some 130), .mov (.t 21), (some (129, true))⟩,
    ⟨(some 131), .mov (.t 24), (some (129, true))⟩,
    ⟨(some 132), .bin .eql .none (.t 130) (.t 131), (some (129, true))⟩,
    ⟨(some 133), .pick (.t 129) (.t 132) (.c (.bool false)), none⟩,
    ⟨(some 134), .mov (.t 133), none⟩,
    ⟨(some 135), .mov (.t 0), (some (134, true))⟩,
    ⟨(some 136), .call (.c (.func (.func 17) [] [])) [(.t 135)], (some (134, true))⟩,
    ⟨(some 137), .mov (.t 0), (some (134, true))⟩,
    ⟨(some 138), .call (.c (.func (.func 48) [] [])) [(.t 137)], (some (134, true))⟩,
    ⟨(some 139), .bin .eql .bool (.t 136) (.t 138), (some (134, true))⟩,
    ⟨(some 140), .pick (.t 134) (.t 139) (.c (.bool false)), none⟩,
    ⟨(some 141), .mov (.t 140), none⟩,
    ⟨(some 142), .mov (.t 0), (some (141, true))⟩,
    ⟨(some 143), .call (.c (.func (.func 19) [] [])) [(.t 142)], (some (141, true))⟩,
    ⟨(some 144), .mov (.t 0), (some (141, true))⟩,
    ⟨(some 145), .call (.c (.func (.func 49) [] [])) [(.t 144)], (some (141, true))⟩,
    ⟨(some 146), .bin .eql .none (.t 143) (.t 145), (some (141, true))⟩,
    ⟨(some 147), .pick (.t 141) (.t 146) (.c (.bool false)), none⟩,
    ⟨(some 148), .mov (.t 147), none⟩,
    ⟨(some 149), .mov (.t 0), (some (148, true))⟩,
    ⟨(some 150), .call (.c (.func (.func 18) [] [])) [(.t 149)], (some (148, true))⟩,
    ⟨(some 151), .mov (.t 0), (some (148, true))⟩,
    ⟨(some 152), .call (.c (.func (.func 50) [] [])) [(.t 151)], (some (148, true))⟩,
    ⟨(some 153), .bin .eql .none (.t 150) (.t 152), (some (148, true))⟩,
    ⟨(some 154), .pick (.t 148) (.t 153) (.c (.bool false)), none⟩,
    ⟨(some 155), .mov (.t 154), none⟩,
    ⟨(some 156), .mov (.t 26), (some (155, true))⟩,
    ⟨(some 157), .pick (.t 155) (.t 156) (.c (.bool false)), none⟩,
    ⟨(some 158), .mov (.t 157), none⟩,
    ⟨(some 159), .mov (.t 25), (some (158, true))⟩,
    ⟨(some 160), .mov (.t 0), (some (158, true))⟩,
    ⟨(some 161), .call (.c (.func (.func 51) [] [])) [(.t 160)], (some (158, true))⟩,
    ⟨(some 162), .call (.c (.func (.func 43) [] [])) [(.t 159), (.t 161)], (some (158, true))⟩,
    ⟨(some 163), .pick (.t 158) (.t 162) (.c (.bool false)), none⟩,
    ⟨(some 4), .mov (.t 163), none⟩])
  (.ret))))))))))))), 164, [.tmp 4]⟩
theorem f11_ok : compF Try.prog Try.f11 [] = some f11 := by kernel_rfl

/-! 12: polyglot/polyglotlaw01.lives -/
def f12 : AFn := ⟨.seq (.ops [⟨(some 0), .mov (.c (.bool false)), none⟩])
  (.seq (.ops [⟨(some 1), .call (.c (.func (.func 14) [] [])) [(.c (.int .u64 258)), (.c (.int .i64 2))], none⟩,
    ⟨(some 2), .bin .eql .none (.t 1) (.c (.str [1, 2])), none⟩,
    ⟨(some 3), .mov (.t 2), none⟩,
    ⟨(some 4), .call (.c (.func (.func 15) [] [])) [(.c (.str [1, 2]))], (some (3, true))⟩,
    ⟨(some 5), .bin .eql .none (.t 4) (.c (.int .u64 258)), (some (3, true))⟩,
    ⟨(some 6), .pick (.t 3) (.t 5) (.c (.bool false)), none⟩,
    ⟨(some 0), .mov (.t 6), none⟩])
  (.ret)), 7, [.tmp 0]⟩
theorem f12_ok : compF Try.prog Try.f12 [] = some f12 := by kernel_rfl

/-! 13: polyglot/polyglotkit.Pick -/
def f13 : AFn := ⟨.seq (.ops [⟨(some 4), .mov (.c (.int .i64 0)), none⟩])
  (.seq (.seq (.ops [⟨(some 6), .mov (.t 1), none⟩,
    ⟨(some 7), .bin .lss .none (.t 6) (.c (.int .i64 1)), none⟩])
  (.cond (.t 7)
   (.seq (.ops [⟨(some 4), .mov (.c (.int .i64 0)), none⟩])
   (.ret))
   (.skip)))
  (.seq (.ops [⟨(some 8), .mov (.t 0), none⟩,
    ⟨(some 9), .mov (.t 1), none⟩,
    ⟨(some 10), .bin .rem .none (.t 8) (.t 9), none⟩,
    ⟨(some 5), .mov (.t 10), none⟩])
  (.seq (.seq (.ops [⟨(some 11), .mov (.t 5), none⟩,
    ⟨(some 12), .bin .lss .none (.t 11) (.c (.int .i64 0)), none⟩])
  (.cond (.t 12)
   (.ops [⟨(some 13), .mov (.t 5), none⟩,
     ⟨(some 14), .mov (.t 1), none⟩,
     ⟨(some 15), .bin .add .none (.t 13) (.t 14), none⟩,
     ⟨(some 5), .mov (.t 15), none⟩])
   (.skip)))
  (.seq (.ops [⟨(some 16), .mov (.t 5), none⟩,
    ⟨(some 4), .mov (.t 16), none⟩])
  (.ret))))), 17, [.tmp 4]⟩
theorem f13_ok : compF Try.prog Try.f13 [] = some f13 := by kernel_rfl

/-! 14: polyglot/octet.Put -/
def f14_M0 : List Bool := [true, true, false, false, false, true, false, false, false, false, false, false, false, true, true, false, false, false, false, false, false, false, false, false, false, false, false, false, false, false, false, false, false, false]
def f14_L0 : AC := .seq (.ops [⟨(some 15), .bin .lss .none (.t 14) (.t 13), none⟩])
  (.seq (.cond (.t 15)
   (.skip)
   (.exit 0))
  (.seq (.block 1 (.seq (.ops [⟨(some 16), .mov (.t 14), none⟩,
     ⟨(some 6), .mov (.t 16), none⟩])
   (.seq (.ops [⟨(some 17), .mov (.t 6), none⟩,
     ⟨(some 18), .bin .lss .none (.t 17) (.c (.int .i64 8)), none⟩])
   (.cond (.t 18)
    (.ops [⟨(some 19), .mov (.t 5), none⟩,
      ⟨(some 20), .mov (.t 1), none⟩,
      ⟨(some 21), .bin .sub .none (.t 20) (.c (.int .i64 1)), none⟩,
      ⟨(some 22), .mov (.t 6), none⟩,
      ⟨(some 23), .bin .sub .none (.t 21) (.t 22), none⟩,
      ⟨(some 24), .mov (.t 0), none⟩,
      ⟨(some 25), .mov (.t 6), none⟩,
      ⟨(some 26), .bin .mul .none (.c (.int .i64 8)) (.t 25), none⟩,
      ⟨(some 27), .conv .u64 (.t 26), none⟩,
      ⟨(some 28), .bin .shr .none (.t 24) (.t 27), none⟩,
      ⟨(some 29), .conv .u8 (.t 28), none⟩,
      ⟨(some 30), .indexAddr 1 (.t 19) (.t 23), none⟩,
      ⟨none, .store 1 (.t 30) (.t 29), none⟩])
    (.skip)))))
  (.ops [⟨(some 31), .bin .add .none (.t 14) (.c (.int .i64 1)), none⟩,
    ⟨(some 14), .mov (.t 31), none⟩])))
/-- live: [0, 1, 5, 13, 14] -/
def f14_S0 (x0 x1 x5 x13 x14 : AV) : List AV := [x0, x1, .junk, .junk, .junk, x5, .junk, .junk, .junk, .junk, .junk, .junk, .junk, x13, x14, .junk, .junk, .junk, .junk, .junk, .junk, .junk, .junk, .junk, .junk, .junk, .junk, .junk, .junk, .junk, .junk, .junk, .junk, .junk]
def f14 : AFn := ⟨.seq (.ops [⟨(some 4), .mov (.c (.str [])), none⟩])
  (.seq (.seq (.ops [⟨(some 7), .mov (.t 1), none⟩,
    ⟨(some 8), .bin .leq .none (.t 7) (.c (.int .i64 0)), none⟩])
  (.cond (.t 8)
   (.seq (.ops [⟨(some 4), .mov (.c (.str [])), none⟩])
   (.ret))
   (.skip)))
  (.seq (.ops [⟨(some 9), .mov (.t 1), none⟩,
    ⟨(some 10), .min (.t 9) (.c (.int .i64 16)), none⟩,
    ⟨(some 1), .mov (.t 10), none⟩])
  (.seq (.ops [⟨(some 11), .mov (.t 1), none⟩,
    ⟨(some 12), .mkslice 1 1 [.int .u8 0] (.t 11) (.t 11), none⟩,
    ⟨(some 5), .mov (.t 12), none⟩])
  (.seq (.seq (.ops [⟨(some 13), .mov (.t 1), none⟩,
    ⟨(some 14), .mov (.c (.int .i64 0)), none⟩])
  (.block 0 (.loop f14_M0 f14_L0)))
  (.seq (.ops [⟨(some 32), .mov (.t 5), none⟩,
    ⟨(some 33), .b2s (.t 32), none⟩,
    ⟨(some 4), .mov (.t 33), none⟩])
  (.ret)))))), 34, [.tmp 4]⟩
theorem f14_ok : compF Try.prog Try.f14 [[true, true, false, false, false, true, false, false, false, false, false, false, false, true, true, false, false, false, false, false, false, false, false, false, false, false, false, false, false, false, false, false, false, false]] = some f14 := by kernel_rfl

/-! 15: polyglot/octet.Get -/
def f15_M0 : List Bool := [true, false, false, true, false, false, false, false, false, false, false, false, false, false, true, true, false, false, false, false, false, false, false, false, false, false, false]
def f15_L0 : AC := .seq (.ops [⟨(some 16), .bin .lss .none (.t 15) (.t 14), none⟩])
  (.seq (.cond (.t 16)
   (.skip)
   (.exit 0))
  (.seq (.block 1 (.seq (.ops [⟨(some 17), .mov (.t 15), none⟩,
     ⟨(some 4), .mov (.t 17), none⟩])
   (.ops [⟨(some 18), .mov (.t 3), none⟩,
     ⟨(some 19), .bin .shl .none (.t 18) (.c (.int .u64 8)), none⟩,
     ⟨(some 20), .mov (.t 0), none⟩,
     ⟨(some 21), .mov (.t 4), none⟩,
     ⟨(some 22), .indexStr (.t 20) (.t 21), none⟩,
     ⟨(some 23), .conv .u64 (.t 22), none⟩,
     ⟨(some 24), .bin .or .none (.t 19) (.t 23), none⟩,
     ⟨(some 3), .mov (.t 24), none⟩])))
  (.ops [⟨(some 25), .bin .add .none (.t 15) (.c (.int .i64 1)), none⟩,
    ⟨(some 15), .mov (.t 25), none⟩])))
/-- live: [0, 3, 14, 15] -/
def f15_S0 (x0 x3 x14 x15 : AV) : List AV := [x0, .junk, .junk, x3, .junk, .junk, .junk, .junk, .junk, .junk, .junk, .junk, .junk, .junk, x14, x15, .junk, .junk, .junk, .junk, .junk, .junk, .junk, .junk, .junk, .junk, .junk]
def f15 : AFn := ⟨.seq (.ops [⟨(some 2), .mov (.c (.int .u64 0)), none⟩])
  (.seq (.seq (.ops [⟨(some 5), .mov (.t 0), none⟩,
    ⟨(some 6), .lenS (.t 5), none⟩,
    ⟨(some 7), .bin .gtr .none (.t 6) (.c (.int .i64 8)), none⟩])
  (.cond (.t 7)
   (.ops [⟨(some 8), .mov (.t 0), none⟩,
     ⟨(some 9), .mov (.t 0), none⟩,
     ⟨(some 10), .lenS (.t 9), none⟩,
     ⟨(some 11), .bin .sub .none (.t 10) (.c (.int .i64 8)), none⟩,
     ⟨(some 12), .substr (.t 8) (some (.t 11)) none, none⟩,
     ⟨(some 0), .mov (.t 12), none⟩])
   (.skip)))
  (.seq (.ops [⟨(some 3), .mov (.c (.int .u64 0)), none⟩])
  (.seq (.seq (.ops [⟨(some 13), .mov (.t 0), none⟩,
    ⟨(some 14), .lenS (.t 13), none⟩,
    ⟨(some 15), .mov (.c (.int .i64 0)), none⟩])
  (.block 0 (.loop f15_M0 f15_L0)))
  (.seq (.ops [⟨(some 26), .mov (.t 3), none⟩,
    ⟨(some 2), .mov (.t 26), none⟩])
  (.ret))))), 27, [.tmp 2]⟩
theorem f15_ok : compF Try.prog Try.f15 [[true, false, false, true, false, false, false, false, false, false, false, false, false, false, true, true, false, false, false, false, false, false, false, false, false, false, false]] = some f15 := by kernel_rfl

/-! 16: polyglot/polyglotlaw03.lives -/
def f16 : AFn := ⟨.seq (.ops [⟨(some 0), .mov (.c (.bool false)), none⟩])
  (.seq (.ops [⟨(some 6), .call (.c (.func (.func 38) [] [])) [(.c (.str [65]))], none⟩,
    ⟨(some 5), .mov (.t 6), none⟩,
    ⟨(some 7), .extract (.t 5) 0, none⟩,
    ⟨(some 8), .extract (.t 5) 1, none⟩,
    ⟨(some 1), .mov (.t 7), none⟩,
    ⟨(some 2), .mov (.t 8), none⟩])
  (.seq (.ops [⟨(some 10), .call (.c (.func (.func 38) [] [])) [(.c (.str [192, 128]))], none⟩,
    ⟨(some 9), .mov (.t 10), none⟩,
    ⟨(some 11), .extract (.t 9) 0, none⟩,
    ⟨(some 12), .extract (.t 9) 1, none⟩,
    ⟨(some 3), .mov (.t 11), none⟩,
    ⟨(some 4), .mov (.t 12), none⟩])
  (.seq (.ops [⟨(some 13), .mov (.t 2), none⟩,
    ⟨(some 14), .bin .eql .none (.t 13) (.c (.int .i64 0)), none⟩,
    ⟨(some 15), .mov (.t 14), none⟩,
    ⟨(some 16), .mov (.t 1), (some (15, true))⟩,
    ⟨(some 17), .bin .eql .none (.t 16) (.c (.str [0, 1, 65])), (some (15, true))⟩,
    ⟨(some 18), .pick (.t 15) (.t 17) (.c (.bool false)), none⟩,
    ⟨(some 19), .mov (.t 18), none⟩,
    ⟨(some 20), .mov (.t 4), (some (19, true))⟩,
    ⟨(some 21), .bin .eql .none (.t 20) (.c (.int .i64 6)), (some (19, true))⟩,
    ⟨(some 22), .pick (.t 19) (.t 21) (.c (.bool false)), none⟩,
    ⟨(some 0), .mov (.t 22), none⟩])
  (.ret)))), 23, [.tmp 0]⟩
theorem f16_ok : compF Try.prog Try.f16 [] = some f16 := by kernel_rfl

/-! 17: polyglot/ustring.Valid -/
def f17 : AFn := ⟨.seq (.ops [⟨(some 2), .mov (.c (.bool false)), none⟩])
  (.seq (.ops [⟨(some 3), .mov (.t 0), none⟩,
    ⟨(some 4), .lenS (.t 3), none⟩,
    ⟨(some 5), .bin .leq .none (.t 4) (.c (.int .i64 65535)), none⟩,
    ⟨(some 6), .mov (.t 5), none⟩,
    ⟨(some 7), .mov (.t 0), (some (6, true))⟩,
    ⟨(some 8), .call (.c (.func (.func 19) [] [])) [(.t 7)], (some (6, true))⟩,
    ⟨(some 9), .bin .eql .none (.t 8) (.c (.int .i64 (-1))), (some (6, true))⟩,
    ⟨(some 10), .pick (.t 6) (.t 9) (.c (.bool false)), none⟩,
    ⟨(some 2), .mov (.t 10), none⟩])
  (.ret)), 11, [.tmp 2]⟩
theorem f17_ok : compF Try.prog Try.f17 [] = some f17 := by kernel_rfl

/-! 18: polyglot/ustring.Count -/
def f18_M0 : List Bool := [false, false, false, true, false, false, false, false, true, false, false, false, false, false]
def f18_L0 : AC := .seq (.ops [⟨(some 9), .next (.t 8), none⟩,
    ⟨(some 10), .extract (.t 9) 0, none⟩])
  (.seq (.cond (.t 10)
   (.skip)
   (.exit 0))
  (.block 1 (.ops [⟨(some 11), .mov (.t 3), none⟩,
     ⟨(some 12), .bin .add .none (.t 11) (.c (.int .i64 1)), none⟩,
     ⟨(some 3), .mov (.t 12), none⟩])))
/-- live: [3, 8] -/
def f18_S0 (x3 x8 : AV) : List AV := [.junk, .junk, .junk, x3, .junk, .junk, .junk, .junk, x8, .junk, .junk, .junk, .junk, .junk]
def f18 : AFn := ⟨.seq (.ops [⟨(some 2), .mov (.c (.int .i64 0)), none⟩])
  (.seq (.seq (.ops [⟨(some 4), .mov (.t 0), none⟩,
    ⟨(some 5), .call (.c (.func (.func 17) [] [])) [(.t 4)], none⟩,
    ⟨(some 6), .not (.t 5), none⟩])
  (.cond (.t 6)
   (.seq (.ops [⟨(some 2), .mov (.c (.int .i64 0)), none⟩])
   (.ret))
   (.skip)))
  (.seq (.ops [⟨(some 3), .mov (.c (.int .i64 0)), none⟩])
  (.seq (.seq (.ops [⟨(some 7), .mov (.t 0), none⟩,
    ⟨(some 8), .range (.t 7), none⟩])
  (.block 0 (.loop f18_M0 f18_L0)))
  (.seq (.ops [⟨(some 13), .mov (.t 3), none⟩,
    ⟨(some 2), .mov (.t 13), none⟩])
  (.ret))))), 14, [.tmp 2]⟩
theorem f18_ok : compF Try.prog Try.f18 [[false, false, false, true, false, false, false, false, true, false, false, false, false, false]] = some f18 := by kernel_rfl

/-! 19: polyglot/ustring.Bad -/
def f19_M0 : List Bool := [true, false, false, false, false, false, true, false, false, false, false, false, false, false, false, false, false, false, false, false, false, false, false, false, false]
def f19_L0 : AC := .seq (.ops [⟨(some 7), .next (.t 6), none⟩,
    ⟨(some 8), .extract (.t 7) 0, none⟩])
  (.seq (.cond (.t 8)
   (.skip)
   (.exit 0))
  (.block 1 (.seq (.ops [⟨(some 9), .extract (.t 7) 1, none⟩,
     ⟨(some 10), .extract (.t 7) 2, none⟩,
     ⟨(some 3), .mov (.t 9), none⟩,
     ⟨(some 4), .mov (.t 10), none⟩])
   (.seq (.ops [⟨(some 11), .mov (.t 4), none⟩,
     ⟨(some 12), .bin .eql .none (.t 11) (.c (.int .i32 0)), none⟩,
     ⟨(some 13), .mov (.t 12), none⟩,
     ⟨(some 14), .mov (.t 4), (some (13, false))⟩,
     ⟨(some 15), .bin .eql .none (.t 14) (.c (.int .i32 65533)), (some (13, false))⟩,
     ⟨(some 16), .mov (.t 15), (some (13, false))⟩,
     ⟨(some 17), .mov (.t 0), (some (16, true))⟩,
     ⟨(some 18), .mov (.t 3), (some (16, true))⟩,
     ⟨(some 19), .substr (.t 17) (some (.t 18)) none, (some (16, true))⟩,
     ⟨(some 20), .call (.c (.func (.func 52) [] [])) [(.t 19)], (some (16, true))⟩,
     ⟨(some 21), .not (.t 20), (some (16, true))⟩,
     ⟨(some 22), .pick (.t 16) (.t 21) (.c (.bool false)), (some (13, false))⟩,
     ⟨(some 23), .pick (.t 13) (.c (.bool true)) (.t 22), none⟩])
   (.cond (.t 23)
    (.seq (.ops [⟨(some 24), .mov (.t 3), none⟩,
      ⟨(some 2), .mov (.t 24), none⟩])
    (.ret))
    (.skip))))))
/-- live: [0, 6] -/
def f19_S0 (x0 x6 : AV) : List AV := [x0, .junk, .junk, .junk, .junk, .junk, x6, .junk, .junk, .junk, .junk, .junk, .junk, .junk, .junk, .junk, .junk, .junk, .junk, .junk, .junk, .junk, .junk, .junk, .junk]
def f19 : AFn := ⟨.seq (.ops [⟨(some 2), .mov (.c (.int .i64 0)), none⟩])
  (.seq (.seq (.ops [⟨(some 5), .mov (.t 0), none⟩,
    ⟨(some 6), .range (.t 5), none⟩])
  (.block 0 (.loop f19_M0 f19_L0)))
  (.seq (.ops [⟨(some 2), .mov (.c (.int .i64 (-1))), none⟩])
  (.ret))), 25, [.tmp 2]⟩
theorem f19_ok : compF Try.prog Try.f19 [[true, false, false, false, false, false, true, false, false, false, false, false, false, false, false, false, false, false, false, false, false, false, false, false, false]] = some f19 := by kernel_rfl

/-! 20: polyglot/polyglotlaw03.runes -/
def f20 : AFn := ⟨.seq (.ops [⟨(some 1), .box (.t 0), none⟩,
    ⟨(some 2), .new [.nilslice], none⟩,
    ⟨(some 3), .new [.bool false], none⟩])
  (.seq (.ops [⟨(some 8), .load1 (.t 1), none⟩,
    ⟨(some 9), .call (.c (.func (.func 53) [] [])) [(.t 8)], none⟩,
    ⟨(some 4), .mov (.t 9), none⟩])
  (.seq (.seq (.ops [⟨(some 10), .mov (.t 4), none⟩,
    ⟨(some 11), .bin .eql .func (.t 10) (.c (.nilFunc)), none⟩])
  (.cond (.t 11)
   (.seq (.ops [⟨none, .store 1 (.t 2) (.c (.nilslice)), none⟩,
     ⟨none, .store 1 (.t 3) (.c (.bool false)), none⟩])
   (.ret))
   (.skip)))
  (.seq (.ops [⟨(some 5), .new [.nilslice], none⟩])
  (.seq (.seq (.ops [⟨(some 12), .mov (.t 4), none⟩])
  (.block 0 (.fail)))
  (.seq (.ops [⟨(some 26), .load1 (.t 5), none⟩,
    ⟨none, .store 1 (.t 2) (.t 26), none⟩,
    ⟨none, .store 1 (.t 3) (.c (.bool true)), none⟩])
  (.ret)))))), 27, [.cell1 2, .cell1 3]⟩
theorem f20_ok : compF Try.prog Try.f20 [] = some f20 := by kernel_rfl

/-! 21: polyglot/polyglotlaw03.next -/
def f21 : AFn := ⟨.seq (.ops [⟨(some 6), .mov (.c (.int .i64 0)), none⟩])
  (.seq (.seq (.ops [⟨(some 7), .mov (.t 1), none⟩,
    ⟨(some 8), .bin .add .none (.t 7) (.c (.int .i64 1)), none⟩,
    ⟨(some 9), .mov (.t 0), none⟩,
    ⟨(some 10), .len (.t 9), none⟩,
    ⟨(some 11), .bin .lss .none (.t 8) (.t 10), none⟩])
  (.cond (.t 11)
   (.seq (.ops [⟨(some 12), .mov (.t 0), none⟩,
     ⟨(some 13), .mov (.t 1), none⟩,
     ⟨(some 14), .bin .add .none (.t 13) (.c (.int .i64 1)), none⟩,
     ⟨(some 15), .indexAddr 2 (.t 12) (.t 14), none⟩,
     ⟨(some 16), .fieldAddr 0 (.t 15), none⟩,
     ⟨(some 17), .load1 (.t 16), none⟩,
     ⟨(some 6), .mov (.t 17), none⟩])
   (.ret))
   (.skip)))
  (.seq (.ops [⟨(some 18), .mov (.t 2), none⟩,
    ⟨(some 6), .mov (.t 18), none⟩])
  (.ret))), 19, [.tmp 6]⟩
theorem f21_ok : compF Try.prog Try.f21 [] = some f21 := by kernel_rfl

/-! 22: polyglot/octet.New -/
def f22 : AFn := ⟨.seq (.ops [⟨(some 2), .mov (.c (.nilptr)), none⟩])
  (.seq (.ops [⟨(some 3), .mov (.t 0), none⟩,
    ⟨(some 4), .build [.str [], .int .i64 0, .int .i64 0] [(0, 1, (.t 3))], none⟩,
    ⟨(some 5), .box (.t 4), none⟩,
    ⟨(some 2), .mov (.t 5), none⟩])
  (.ret)), 6, [.tmp 2]⟩
theorem f22_ok : compF Try.prog Try.f22 [] = some f22 := by kernel_rfl

/-! 23: (*polyglot/octet.Cursor).Err -/
def f23 : AFn := ⟨.seq (.ops [⟨(some 2), .mov (.c (.int .i64 0)), none⟩])
  (.seq (.seq (.ops [⟨(some 3), .mov (.t 0), none⟩,
    ⟨(some 4), .bin .eql .ptr (.t 3) (.c (.nilptr)), none⟩])
  (.cond (.t 4)
   (.seq (.ops [⟨(some 2), .mov (.c (.int .i64 1)), none⟩])
   (.ret))
   (.skip)))
  (.seq (.ops [⟨(some 5), .mov (.t 0), none⟩,
    ⟨(some 6), .nilCheck (.t 5), none⟩,
    ⟨(some 7), .fieldAddr 2 (.t 6), none⟩,
    ⟨(some 8), .load1 (.t 7), none⟩,
    ⟨(some 2), .mov (.t 8), none⟩])
  (.ret))), 9, [.tmp 2]⟩
theorem f23_ok : compF Try.prog Try.f23 [] = some f23 := by kernel_rfl

/-! 24: (*polyglot/octet.Cursor).Left -/
def f24 : AFn := ⟨.seq (.ops [⟨(some 2), .mov (.c (.int .i64 0)), none⟩])
  (.seq (.ops [⟨(some 3), .mov (.t 0), none⟩,
    ⟨(some 4), .call (.c (.func (.func 26) [] [])) [(.t 3)], none⟩,
    ⟨(some 5), .lenS (.t 4), none⟩,
    ⟨(some 2), .mov (.t 5), none⟩])
  (.ret)), 6, [.tmp 2]⟩
theorem f24_ok : compF Try.prog Try.f24 [] = some f24 := by kernel_rfl

/-! 25: (*polyglot/octet.Cursor).Peek -/
def f25 : AFn := ⟨.seq (.ops [⟨(some 4), .mov (.c (.str [])), none⟩])
  (.seq (.seq (.ops [⟨(some 5), .mov (.t 0), none⟩,
    ⟨(some 6), .call (.c (.func (.func 54) [] [])) [(.t 5)], none⟩,
    ⟨(some 7), .not (.t 6), none⟩,
    ⟨(some 8), .mov (.t 7), none⟩,
    ⟨(some 9), .mov (.t 0), (some (8, false))⟩,
    ⟨(some 10), .mov (.t 1), (some (8, false))⟩,
    ⟨(some 11), .call (.c (.func (.func 55) [] [])) [(.t 9), (.t 10)], (some (8, false))⟩,
    ⟨(some 12), .not (.t 11), (some (8, false))⟩,
    ⟨(some 13), .pick (.t 8) (.c (.bool true)) (.t 12), none⟩])
  (.cond (.t 13)
   (.seq (.ops [⟨(some 4), .mov (.c (.str [])), none⟩])
   (.ret))
   (.skip)))
  (.seq (.quiet [⟨(some 14), .mov (.t 0), none⟩,
    ⟨(some 15), .nilCheck (.t 14), none⟩,
    ⟨(some 16), .fieldAddr 0 (.t 15), none⟩,
    ⟨(some 17), .load1 (.t 16), none⟩,
    ⟨(some 18), .mov (.t 0), none⟩,
    ⟨(some 19), .nilCheck (.t 18), none⟩,
    ⟨(some 20), .fieldAddr 1 (.t 19), none⟩,
    ⟨(some 21), .load1 (.t 20), none⟩,
    ⟨(some 22), .substr (.t 17) (some (.t 21)) none, none⟩,
    ⟨(some 23), .mov (.t 1), none⟩,
    ⟨(some 24), .substr (.t 22) none (some (.t 23)), none⟩,
    ⟨(some 4), .mov (.t 24), none⟩])
  (.ret))), 25, [.tmp 4]⟩
theorem f25_ok : compF Try.prog Try.f25 [] = some f25 := by kernel_rfl

/-! 26: (*polyglot/octet.Cursor).Rest -/
def f26 : AFn := ⟨.seq (.ops [⟨(some 2), .mov (.c (.str [])), none⟩])
  (.seq (.seq (.ops [⟨(some 3), .mov (.t 0), none⟩,
    ⟨(some 4), .bin .eql .ptr (.t 3) (.c (.nilptr)), none⟩])
  (.cond (.t 4)
   (.seq (.ops [⟨(some 2), .mov (.c (.str [])), none⟩])
   (.ret))
   (.skip)))
  (.seq (.quiet [⟨(some 5), .mov (.t 0), none⟩,
    ⟨(some 6), .nilCheck (.t 5), none⟩,
    ⟨(some 7), .fieldAddr 0 (.t 6), none⟩,
    ⟨(some 8), .load1 (.t 7), none⟩,
    ⟨(some 9), .mov (.t 0), none⟩,
    ⟨(some 10), .nilCheck (.t 9), none⟩,
    ⟨(some 11), .fieldAddr 1 (.t 10), none⟩,
    ⟨(some 12), .load1 (.t 11), none⟩,
    ⟨(some 13), .substr (.t 8) (some (.t 12)) none, none⟩,
    ⟨(some 2), .mov (.t 13), none⟩])
  (.ret))), 14, [.tmp 2]⟩
theorem f26_ok : compF Try.prog Try.f26 [] = some f26 := by kernel_rfl

/-! 27: (*polyglot/octet.Cursor).Take -/
def f27 : AFn := ⟨.seq (.ops [⟨(some 4), .mov (.c (.str [])), none⟩])
  (.seq (.seq (.ops [⟨(some 6), .mov (.t 0), none⟩,
    ⟨(some 7), .call (.c (.func (.func 54) [] [])) [(.t 6)], none⟩,
    ⟨(some 8), .not (.t 7), none⟩])
  (.cond (.t 8)
   (.seq (.ops [⟨(some 4), .mov (.c (.str [])), none⟩])
   (.ret))
   (.skip)))
  (.seq (.seq (.ops [⟨(some 9), .mov (.t 0), none⟩,
    ⟨(some 10), .mov (.t 1), none⟩,
    ⟨(some 11), .call (.c (.func (.func 55) [] [])) [(.t 9), (.t 10)], none⟩,
    ⟨(some 12), .not (.t 11), none⟩])
  (.cond (.t 12)
   (.seq (.ops [⟨(some 13), .mov (.t 0), none⟩,
     ⟨(some 14), .nilCheck (.t 13), none⟩,
     ⟨(some 15), .fieldAddr 2 (.t 14), none⟩,
     ⟨none, .store 1 (.t 15) (.c (.int .i64 3)), none⟩])
   (.seq (.ops [⟨(some 4), .mov (.c (.str [])), none⟩])
   (.ret)))
   (.skip)))
  (.seq (.ops [⟨(some 16), .mov (.t 0), none⟩,
    ⟨(some 17), .nilCheck (.t 16), none⟩,
    ⟨(some 18), .fieldAddr 1 (.t 17), none⟩,
    ⟨(some 19), .load1 (.t 18), none⟩,
    ⟨(some 5), .mov (.t 19), none⟩])
  (.seq (.ops [⟨(some 20), .mov (.t 0), none⟩,
    ⟨(some 21), .nilCheck (.t 20), none⟩,
    ⟨(some 22), .fieldAddr 1 (.t 21), none⟩,
    ⟨(some 23), .load1 (.t 22), none⟩,
    ⟨(some 24), .mov (.t 1), none⟩,
    ⟨(some 25), .bin .add .none (.t 23) (.t 24), none⟩,
    ⟨(some 26), .nilCheck (.t 20), none⟩,
    ⟨(some 27), .fieldAddr 1 (.t 26), none⟩,
    ⟨none, .store 1 (.t 27) (.t 25), none⟩])
  (.seq (.quiet [⟨(some 28), .mov (.t 0), none⟩,
    ⟨(some 29), .nilCheck (.t 28), none⟩,
    ⟨(some 30), .fieldAddr 0 (.t 29), none⟩,
    ⟨(some 31), .load1 (.t 30), none⟩,
    ⟨(some 32), .mov (.t 5), none⟩,
    ⟨(some 33), .mov (.t 0), none⟩,
    ⟨(some 34), .nilCheck (.t 33), none⟩,
    ⟨(some 35), .fieldAddr 1 (.t 34), none⟩,
    ⟨(some 36), .load1 (.t 35), none⟩,
    ⟨(some 37), .substr (.t 31) (some (.t 32)) (some (.t 36)), none⟩,
    ⟨(some 4), .mov (.t 37), none⟩])
  (.ret)))))), 38, [.tmp 4]⟩
theorem f27_ok : compF Try.prog Try.f27 [] = some f27 := by kernel_rfl

/-! 28: (*polyglot/octet.Cursor).At -/
def f28 : AFn := ⟨.seq (.ops [⟨(some 2), .mov (.c (.int .i64 0)), none⟩])
  (.seq (.seq (.ops [⟨(some 3), .mov (.t 0), none⟩,
    ⟨(some 4), .bin .eql .ptr (.t 3) (.c (.nilptr)), none⟩])
  (.cond (.t 4)
   (.seq (.ops [⟨(some 2), .mov (.c (.int .i64 0)), none⟩])
   (.ret))
   (.skip)))
  (.seq (.ops [⟨(some 5), .mov (.t 0), none⟩,
    ⟨(some 6), .nilCheck (.t 5), none⟩,
    ⟨(some 7), .fieldAddr 1 (.t 6), none⟩,
    ⟨(some 8), .load1 (.t 7), none⟩,
    ⟨(some 2), .mov (.t 8), none⟩])
  (.ret))), 9, [.tmp 2]⟩
theorem f28_ok : compF Try.prog Try.f28 [] = some f28 := by kernel_rfl

/-! 29: (*polyglot/octet.Cursor).Number -/
def f29 : AFn := ⟨.seq (.ops [⟨(some 4), .mov (.c (.int .u64 0)), none⟩])
  (.seq (.ops [⟨(some 5), .mov (.t 0), none⟩,
    ⟨(some 6), .mov (.t 1), none⟩,
    ⟨(some 7), .call (.c (.func (.func 27) [] [])) [(.t 5), (.t 6)], none⟩,
    ⟨(some 8), .call (.c (.func (.func 15) [] [])) [(.t 7)], none⟩,
    ⟨(some 4), .mov (.t 8), none⟩])
  (.ret)), 9, [.tmp 4]⟩
theorem f29_ok : compF Try.prog Try.f29 [] = some f29 := by kernel_rfl

/-! 30: (*polyglot/octet.Cursor).Fail -/
def f30 : AFn := ⟨.seq (.ops [⟨(some 4), .mov (.t 0), none⟩,
    ⟨(some 5), .call (.c (.func (.func 54) [] [])) [(.t 4)], none⟩])
  (.cond (.t 5)
   (.ops [⟨(some 6), .mov (.t 0), none⟩,
     ⟨(some 7), .mov (.t 1), none⟩,
     ⟨(some 8), .nilCheck (.t 6), none⟩,
     ⟨(some 9), .fieldAddr 2 (.t 8), none⟩,
     ⟨none, .store 1 (.t 9) (.t 7), none⟩])
   (.skip)), 10, []⟩
theorem f30_ok : compF Try.prog Try.f30 [] = some f30 := by kernel_rfl

/-! 31: polyglot/polyglotref01.New -/
def f31 : AFn := ⟨.seq (.ops [⟨(some 2), .mov (.c (.nilptr)), none⟩])
  (.seq (.ops [⟨(some 3), .mov (.t 0), none⟩,
    ⟨(some 4), .build [.str [], .int .i64 0, .int .i64 0] [(0, 1, (.t 3))], none⟩,
    ⟨(some 5), .box (.t 4), none⟩,
    ⟨(some 2), .mov (.t 5), none⟩])
  (.ret)), 6, [.tmp 2]⟩
theorem f31_ok : compF Try.prog Try.f31 [] = some f31 := by kernel_rfl

/-! 32: (*polyglot/polyglotref01.Cursor).Take -/
def f32 : AFn := ⟨.seq (.ops [⟨(some 4), .mov (.c (.str [])), none⟩])
  (.seq (.seq (.quiet [⟨(some 6), .mov (.t 0), none⟩,
    ⟨(some 7), .nilCheck (.t 6), none⟩,
    ⟨(some 8), .fieldAddr 2 (.t 7), none⟩,
    ⟨(some 9), .load1 (.t 8), none⟩,
    ⟨(some 10), .bin .eql .none (.t 9) (.c (.int .i64 0)), none⟩,
    ⟨(some 11), .mov (.t 10), none⟩,
    ⟨(some 12), .mov (.t 1), (some (11, true))⟩,
    ⟨(some 13), .bin .lss .none (.t 12) (.c (.int .i64 0)), (some (11, true))⟩,
    ⟨(some 14), .mov (.t 13), (some (11, true))⟩,
    ⟨(some 15), .mov (.t 1), (some (14, false))⟩,
    ⟨(some 16), .mov (.t 0), (some (14, false))⟩,
    ⟨(some 17), .nilCheck (.t 16), (some (14, false))⟩,
    ⟨(some 18), .fieldAddr 0 (.t 17), (some (14, false))⟩,
    ⟨(some 19), .load1 (.t 18), (some (14, false))⟩,
    ⟨(some 20), .lenS (.t 19), (some (14, false))⟩,
    ⟨(some 21), .mov (.t 0), (some (14, false))⟩,
    ⟨(some 22), .nilCheck (.t 21), (some (14, false))⟩,
    ⟨(some 23), .fieldAddr 1 (.t 22), (some (14, false))⟩,
    ⟨(some 24), .load1 (.t 23), (some (14, false))⟩,
    ⟨(some 25), .bin .sub .none (.t 20) (.t 24), (some (14, false))⟩,
    ⟨(some 26), .bin .gtr .none (.t 15) (.t 25), (some (14, false))⟩,
    ⟨(some 27), .pick (.t 14) (.c (.bool true)) (.t 26), (some (11, true))⟩,
    ⟨(some 28), .pick (.t 11) (.t 27) (.c (.bool false)), none⟩])
  (.cond (.t 28)
   (.ops [⟨(some 29), .mov (.t 0), none⟩,
     ⟨(some 30), .nilCheck (.t 29), none⟩,
     ⟨(some 31), .fieldAddr 2 (.t 30), none⟩,
     ⟨none, .store 1 (.t 31) (.c (.int .i64 3)), none⟩])
   (.skip)))
  (.seq (.ops [⟨(some 32), .mov (.t 0), none⟩,
    ⟨(some 33), .mov (.t 1), none⟩,
    ⟨(some 34), .call (.c (.func (.func 34) [] [])) [(.t 32), (.t 33)], none⟩,
    ⟨(some 5), .mov (.t 34), none⟩])
  (.seq (.ops [⟨(some 35), .mov (.t 0), none⟩,
    ⟨(some 36), .mov (.t 0), none⟩,
    ⟨(some 37), .nilCheck (.t 36), none⟩,
    ⟨(some 38), .fieldAddr 1 (.t 37), none⟩,
    ⟨(some 39), .load1 (.t 38), none⟩,
    ⟨(some 40), .mov (.t 5), none⟩,
    ⟨(some 41), .lenS (.t 40), none⟩,
    ⟨(some 42), .bin .add .none (.t 39) (.t 41), none⟩,
    ⟨(some 43), .nilCheck (.t 35), none⟩,
    ⟨(some 44), .fieldAddr 1 (.t 43), none⟩,
    ⟨none, .store 1 (.t 44) (.t 42), none⟩])
  (.seq (.ops [⟨(some 45), .mov (.t 5), none⟩,
    ⟨(some 4), .mov (.t 45), none⟩])
  (.ret))))), 46, [.tmp 4]⟩
theorem f32_ok : compF Try.prog Try.f32 [] = some f32 := by kernel_rfl

/-! 33: (*polyglot/polyglotref01.Cursor).Number -/
def f33 : AFn := ⟨.seq (.ops [⟨(some 4), .mov (.c (.int .u64 0)), none⟩])
  (.seq (.ops [⟨(some 5), .mov (.t 0), none⟩,
    ⟨(some 6), .mov (.t 1), none⟩,
    ⟨(some 7), .call (.c (.func (.func 32) [] [])) [(.t 5), (.t 6)], none⟩,
    ⟨(some 8), .call (.c (.func (.func 56) [] [])) [(.t 7)], none⟩,
    ⟨(some 4), .mov (.t 8), none⟩])
  (.ret)), 9, [.tmp 4]⟩
theorem f33_ok : compF Try.prog Try.f33 [] = some f33 := by kernel_rfl

/-! 34: (*polyglot/polyglotref01.Cursor).Peek -/
def f34 : AFn := ⟨.seq (.ops [⟨(some 4), .mov (.c (.str [])), none⟩])
  (.seq (.seq (.quiet [⟨(some 5), .mov (.t 0), none⟩,
    ⟨(some 6), .nilCheck (.t 5), none⟩,
    ⟨(some 7), .fieldAddr 2 (.t 6), none⟩,
    ⟨(some 8), .load1 (.t 7), none⟩,
    ⟨(some 9), .bin .neq .none (.t 8) (.c (.int .i64 0)), none⟩,
    ⟨(some 10), .mov (.t 9), none⟩,
    ⟨(some 11), .mov (.t 1), (some (10, false))⟩,
    ⟨(some 12), .bin .lss .none (.t 11) (.c (.int .i64 0)), (some (10, false))⟩,
    ⟨(some 13), .pick (.t 10) (.c (.bool true)) (.t 12), none⟩,
    ⟨(some 14), .mov (.t 13), none⟩,
    ⟨(some 15), .mov (.t 1), (some (14, false))⟩,
    ⟨(some 16), .mov (.t 0), (some (14, false))⟩,
    ⟨(some 17), .nilCheck (.t 16), (some (14, false))⟩,
    ⟨(some 18), .fieldAddr 0 (.t 17), (some (14, false))⟩,
    ⟨(some 19), .load1 (.t 18), (some (14, false))⟩,
    ⟨(some 20), .lenS (.t 19), (some (14, false))⟩,
    ⟨(some 21), .mov (.t 0), (some (14, false))⟩,
    ⟨(some 22), .nilCheck (.t 21), (some (14, false))⟩,
    ⟨(some 23), .fieldAddr 1 (.t 22), (some (14, false))⟩,
    ⟨(some 24), .load1 (.t 23), (some (14, false))⟩,
    ⟨(some 25), .bin .sub .none (.t 20) (.t 24), (some (14, false))⟩,
    ⟨(some 26), .bin .gtr .none (.t 15) (.t 25), (some (14, false))⟩,
    ⟨(some 27), .pick (.t 14) (.c (.bool true)) (.t 26), none⟩])
  (.cond (.t 27)
   (.seq (.ops [⟨(some 4), .mov (.c (.str [])), none⟩])
   (.ret))
   (.skip)))
  (.seq (.quiet [⟨(some 28), .mov (.t 0), none⟩,
    ⟨(some 29), .nilCheck (.t 28), none⟩,
    ⟨(some 30), .fieldAddr 0 (.t 29), none⟩,
    ⟨(some 31), .load1 (.t 30), none⟩,
    ⟨(some 32), .mov (.t 0), none⟩,
    ⟨(some 33), .nilCheck (.t 32), none⟩,
    ⟨(some 34), .fieldAddr 1 (.t 33), none⟩,
    ⟨(some 35), .load1 (.t 34), none⟩,
    ⟨(some 36), .mov (.t 0), none⟩,
    ⟨(some 37), .nilCheck (.t 36), none⟩,
    ⟨(some 38), .fieldAddr 1 (.t 37), none⟩,
    ⟨(some 39), .load1 (.t 38), none⟩,
    ⟨(some 40), .mov (.t 1), none⟩,
    ⟨(some 41), .bin .add .none (.t 39) (.t 40), none⟩,
    ⟨(some 42), .substr (.t 31) (some (.t 35)) (some (.t 41)), none⟩,
    ⟨(some 4), .mov (.t 42), none⟩])
  (.ret))), 43, [.tmp 4]⟩
theorem f34_ok : compF Try.prog Try.f34 [] = some f34 := by kernel_rfl

/-! 35: (*polyglot/polyglotref01.Cursor).Fail -/
def f35 : AFn := ⟨.seq (.ops [⟨(some 4), .mov (.t 0), none⟩,
    ⟨(some 5), .nilCheck (.t 4), none⟩,
    ⟨(some 6), .fieldAddr 2 (.t 5), none⟩,
    ⟨(some 7), .load1 (.t 6), none⟩,
    ⟨(some 8), .bin .eql .none (.t 7) (.c (.int .i64 0)), none⟩])
  (.cond (.t 8)
   (.ops [⟨(some 9), .mov (.t 0), none⟩,
     ⟨(some 10), .mov (.t 1), none⟩,
     ⟨(some 11), .nilCheck (.t 9), none⟩,
     ⟨(some 12), .fieldAddr 2 (.t 11), none⟩,
     ⟨none, .store 1 (.t 12) (.t 10), none⟩])
   (.skip)), 13, []⟩
theorem f35_ok : compF Try.prog Try.f35 [] = some f35 := by kernel_rfl

/-! 36: (*polyglot/polyglotref01.Cursor).Left -/
def f36 : AFn := ⟨.seq (.ops [⟨(some 2), .mov (.c (.int .i64 0)), none⟩])
  (.seq (.quiet [⟨(some 3), .mov (.t 0), none⟩,
    ⟨(some 4), .nilCheck (.t 3), none⟩,
    ⟨(some 5), .fieldAddr 0 (.t 4), none⟩,
    ⟨(some 6), .load1 (.t 5), none⟩,
    ⟨(some 7), .lenS (.t 6), none⟩,
    ⟨(some 8), .mov (.t 0), none⟩,
    ⟨(some 9), .nilCheck (.t 8), none⟩,
    ⟨(some 10), .fieldAddr 1 (.t 9), none⟩,
    ⟨(some 11), .load1 (.t 10), none⟩,
    ⟨(some 12), .bin .sub .none (.t 7) (.t 11), none⟩,
    ⟨(some 2), .mov (.t 12), none⟩])
  (.ret)), 13, [.tmp 2]⟩
theorem f36_ok : compF Try.prog Try.f36 [] = some f36 := by kernel_rfl

/-! 37: (*polyglot/polyglotref01.Cursor).Rest -/
def f37 : AFn := ⟨.seq (.ops [⟨(some 2), .mov (.c (.str [])), none⟩])
  (.seq (.quiet [⟨(some 3), .mov (.t 0), none⟩,
    ⟨(some 4), .nilCheck (.t 3), none⟩,
    ⟨(some 5), .fieldAddr 0 (.t 4), none⟩,
    ⟨(some 6), .load1 (.t 5), none⟩,
    ⟨(some 7), .mov (.t 0), none⟩,
    ⟨(some 8), .nilCheck (.t 7), none⟩,
    ⟨(some 9), .fieldAddr 1 (.t 8), none⟩,
    ⟨(some 10), .load1 (.t 9), none⟩,
    ⟨(some 11), .substr (.t 6) (some (.t 10)) none, none⟩,
    ⟨(some 2), .mov (.t 11), none⟩])
  (.ret)), 12, [.tmp 2]⟩
theorem f37_ok : compF Try.prog Try.f37 [] = some f37 := by kernel_rfl

/-! 38: polyglot/ustring.Text -/
def f38 : AFn := ⟨.seq (.ops [⟨(some 2), .mov (.c (.str [])), none⟩,
    ⟨(some 3), .mov (.c (.int .i64 0)), none⟩])
  (.seq (.seq (.ops [⟨(some 4), .mov (.t 0), none⟩,
    ⟨(some 5), .call (.c (.func (.func 17) [] [])) [(.t 4)], none⟩,
    ⟨(some 6), .not (.t 5), none⟩])
  (.cond (.t 6)
   (.seq (.ops [⟨(some 2), .mov (.c (.str [])), none⟩,
     ⟨(some 3), .mov (.c (.int .i64 6)), none⟩])
   (.ret))
   (.skip)))
  (.seq (.ops [⟨(some 7), .mov (.t 0), none⟩,
    ⟨(some 8), .call (.c (.func (.func 57) [] [])) [(.t 7)], none⟩,
    ⟨(some 2), .mov (.t 8), none⟩,
    ⟨(some 3), .mov (.c (.int .i64 0)), none⟩])
  (.ret))), 9, [.tmp 2, .tmp 3]⟩
theorem f38_ok : compF Try.prog Try.f38 [] = some f38 := by kernel_rfl

/-! 39: polyglot/ustring.Read -/
def f39 : AFn := ⟨.seq (.ops [⟨(some 2), .mov (.c (.str [])), none⟩,
    ⟨(some 3), .mov (.c (.int .i64 0)), none⟩,
    ⟨(some 4), .mov (.c (.int .i64 0)), none⟩])
  (.seq (.ops [⟨(some 6), .mov (.t 0), none⟩,
    ⟨(some 7), .call (.c (.func (.func 41) [] [])) [(.t 6)], none⟩,
    ⟨(some 5), .mov (.t 7), none⟩,
    ⟨(some 8), .extract (.t 5) 0, none⟩,
    ⟨(some 9), .extract (.t 5) 1, none⟩,
    ⟨(some 10), .extract (.t 5) 2, none⟩,
    ⟨(some 2), .mov (.t 8), none⟩,
    ⟨(some 3), .mov (.t 9), none⟩,
    ⟨(some 4), .mov (.t 10), none⟩])
  (.seq (.seq (.ops [⟨(some 11), .mov (.t 4), none⟩,
    ⟨(some 12), .bin .eql .none (.t 11) (.c (.int .i64 0)), none⟩,
    ⟨(some 13), .mov (.t 12), none⟩,
    ⟨(some 14), .mov (.t 2), (some (13, true))⟩,
    ⟨(some 15), .call (.c (.func (.func 17) [] [])) [(.t 14)], (some (13, true))⟩,
    ⟨(some 16), .not (.t 15), (some (13, true))⟩,
    ⟨(some 17), .pick (.t 13) (.t 16) (.c (.bool false)), none⟩])
  (.cond (.t 17)
   (.seq (.ops [⟨(some 2), .mov (.c (.str [])), none⟩,
     ⟨(some 3), .mov (.c (.int .i64 0)), none⟩,
     ⟨(some 4), .mov (.c (.int .i64 6)), none⟩])
   (.ret))
   (.skip)))
  (.seq (.ops [⟨(some 18), .mov (.t 2), none⟩,
    ⟨(some 19), .mov (.t 3), none⟩,
    ⟨(some 20), .mov (.t 4), none⟩,
    ⟨(some 2), .mov (.t 18), none⟩,
    ⟨(some 3), .mov (.t 19), none⟩,
    ⟨(some 4), .mov (.t 20), none⟩])
  (.ret)))), 21, [.tmp 2, .tmp 3, .tmp 4]⟩
theorem f39_ok : compF Try.prog Try.f39 [] = some f39 := by kernel_rfl

/-! 40: polyglot/ustring.Binary -/
def f40 : AFn := ⟨.seq (.ops [⟨(some 2), .mov (.c (.str [])), none⟩,
    ⟨(some 3), .mov (.c (.int .i64 0)), none⟩])
  (.seq (.seq (.ops [⟨(some 4), .mov (.t 0), none⟩,
    ⟨(some 5), .lenS (.t 4), none⟩,
    ⟨(some 6), .bin .gtr .none (.t 5) (.c (.int .i64 65535)), none⟩])
  (.cond (.t 6)
   (.seq (.ops [⟨(some 2), .mov (.c (.str [])), none⟩,
     ⟨(some 3), .mov (.c (.int .i64 2)), none⟩])
   (.ret))
   (.skip)))
  (.seq (.ops [⟨(some 7), .mov (.t 0), none⟩,
    ⟨(some 8), .call (.c (.func (.func 57) [] [])) [(.t 7)], none⟩,
    ⟨(some 2), .mov (.t 8), none⟩,
    ⟨(some 3), .mov (.c (.int .i64 0)), none⟩])
  (.ret))), 9, [.tmp 2, .tmp 3]⟩
theorem f40_ok : compF Try.prog Try.f40 [] = some f40 := by kernel_rfl

/-! 41: polyglot/ustring.ReadBinary -/
def f41 : AFn := ⟨.seq (.ops [⟨(some 2), .mov (.c (.str [])), none⟩,
    ⟨(some 3), .mov (.c (.int .i64 0)), none⟩,
    ⟨(some 4), .mov (.c (.int .i64 0)), none⟩])
  (.seq (.ops [⟨(some 6), .mov (.t 0), none⟩,
    ⟨(some 7), .call (.c (.func (.func 22) [] [])) [(.t 6)], none⟩,
    ⟨(some 5), .mov (.t 7), none⟩])
  (.seq (.ops [⟨(some 8), .mov (.t 5), none⟩,
    ⟨(some 9), .mov (.t 5), none⟩,
    ⟨(some 10), .call (.c (.func (.func 29) [] [])) [(.t 9), (.c (.int .i64 2))], none⟩,
    ⟨(some 11), .conv .i64 (.t 10), none⟩,
    ⟨(some 12), .call (.c (.func (.func 27) [] [])) [(.t 8), (.t 11)], none⟩,
    ⟨(some 2), .mov (.t 12), none⟩])
  (.seq (.seq (.ops [⟨(some 13), .mov (.t 5), none⟩,
    ⟨(some 14), .call (.c (.func (.func 23) [] [])) [(.t 13)], none⟩,
    ⟨(some 4), .mov (.t 14), none⟩])
  (.seq (.ops [⟨(some 15), .mov (.t 4), none⟩,
    ⟨(some 16), .bin .neq .none (.t 15) (.c (.int .i64 0)), none⟩])
  (.cond (.t 16)
   (.seq (.ops [⟨(some 17), .mov (.t 4), none⟩,
     ⟨(some 2), .mov (.c (.str [])), none⟩,
     ⟨(some 3), .mov (.c (.int .i64 0)), none⟩,
     ⟨(some 4), .mov (.t 17), none⟩])
   (.ret))
   (.skip))))
  (.seq (.ops [⟨(some 18), .mov (.t 2), none⟩,
    ⟨(some 19), .mov (.t 5), none⟩,
    ⟨(some 20), .call (.c (.func (.func 28) [] [])) [(.t 19)], none⟩,
    ⟨(some 2), .mov (.t 18), none⟩,
    ⟨(some 3), .mov (.t 20), none⟩,
    ⟨(some 4), .mov (.c (.int .i64 0)), none⟩])
  (.ret))))), 21, [.tmp 2, .tmp 3, .tmp 4]⟩
theorem f41_ok : compF Try.prog Try.f41 [] = some f41 := by kernel_rfl

/-! 42: polyglot/polyglotkit.Times -/
def f42_M0 : List Bool := [true, true, false, false, false, true, false, false, false, false, false, false, false, false, false, false, false, false, false, false]
def f42_L0 : AC := .seq (.seq (.ops [⟨(some 6), .mov (.t 1), none⟩,
    ⟨(some 7), .bin .gtr .none (.t 6) (.c (.int .i64 0)), none⟩])
  (.cond (.t 7)
   (.skip)
   (.exit 0)))
  (.seq (.block 1 (.seq (.seq (.ops [⟨(some 10), .mov (.t 1), none⟩,
     ⟨(some 11), .bin .rem .none (.t 10) (.c (.int .i64 2)), none⟩,
     ⟨(some 12), .bin .eql .none (.t 11) (.c (.int .i64 1)), none⟩])
   (.cond (.t 12)
    (.ops [⟨(some 13), .mov (.t 5), none⟩,
      ⟨(some 14), .mov (.t 0), none⟩,
      ⟨(some 15), .bin .add .none (.t 13) (.t 14), none⟩,
      ⟨(some 5), .mov (.t 15), none⟩])
    (.skip)))
   (.ops [⟨(some 16), .mov (.t 0), none⟩,
     ⟨(some 17), .mov (.t 0), none⟩,
     ⟨(some 18), .bin .add .none (.t 16) (.t 17), none⟩,
     ⟨(some 0), .mov (.t 18), none⟩])))
  (.ops [⟨(some 8), .mov (.t 1), none⟩,
    ⟨(some 9), .bin .quo .none (.t 8) (.c (.int .i64 2)), none⟩,
    ⟨(some 1), .mov (.t 9), none⟩]))
/-- live: [0, 1, 5] -/
def f42_S0 (x0 x1 x5 : AV) : List AV := [x0, x1, .junk, .junk, .junk, x5, .junk, .junk, .junk, .junk, .junk, .junk, .junk, .junk, .junk, .junk, .junk, .junk, .junk, .junk]
def f42 : AFn := ⟨.seq (.ops [⟨(some 4), .mov (.c (.str [])), none⟩])
  (.seq (.ops [⟨(some 5), .mov (.c (.str [])), none⟩])
  (.seq (.block 0 (.loop f42_M0 f42_L0))
  (.seq (.ops [⟨(some 19), .mov (.t 5), none⟩,
    ⟨(some 4), .mov (.t 19), none⟩])
  (.ret)))), 20, [.tmp 4]⟩
theorem f42_ok : compF Try.prog Try.f42 [[true, true, false, false, false, true, false, false, false, false, false, false, false, false, false, false, false, false, false, false]] = some f42 := by kernel_rfl

/-! 43: polyglot/polyglotkit.Same[polyglot/polyglotref03.Rune] -/
def f43_M0 : List Bool := [true, true, false, false, false, true, false, false, false, false, false, false, false, false, false, false, false, false, false, false, false, false, false, false, false, false]
def f43_L0 : AC := .seq (.seq (.ops [⟨(some 11), .mov (.t 5), none⟩,
    ⟨(some 12), .mov (.t 0), none⟩,
    ⟨(some 13), .len (.t 12), none⟩,
    ⟨(some 14), .bin .lss .none (.t 11) (.t 13), none⟩])
  (.cond (.t 14)
   (.skip)
   (.exit 0)))
  (.seq (.block 1 (.seq (.quiet [⟨(some 17), .mov (.t 0), none⟩,
     ⟨(some 18), .mov (.t 5), none⟩,
     ⟨(some 19), .indexAddr 2 (.t 17) (.t 18), none⟩,
     ⟨(some 20), .loadN 2 (.t 19), none⟩,
     ⟨(some 21), .mov (.t 1), none⟩,
     ⟨(some 22), .mov (.t 5), none⟩,
     ⟨(some 23), .indexAddr 2 (.t 21) (.t 22), none⟩,
     ⟨(some 24), .loadN 2 (.t 23), none⟩,
     ⟨(some 25), .bin .neq (.agg [.int .i64, .int .i32]) (.t 20) (.t 24), none⟩])
   (.cond (.t 25)
    (.seq (.ops [⟨(some 4), .mov (.c (.bool false)), none⟩])
    (.ret))
    (.skip))))
  (.ops [⟨(some 15), .mov (.t 5), none⟩,
    ⟨(some 16), .bin .add .none (.t 15) (.c (.int .i64 1)), none⟩,
    ⟨(some 5), .mov (.t 16), none⟩]))
/-- live: [0, 1, 5] -/
def f43_S0 (x0 x1 x5 : AV) : List AV := [x0, x1, .junk, .junk, .junk, x5, .junk, .junk, .junk, .junk, .junk, .junk, .junk, .junk, .junk, .junk, .junk, .junk, .junk, .junk, .junk, .junk, .junk, .junk, .junk, .junk]
def f43 : AFn := ⟨.seq (.ops [⟨(some 4), .mov (.c (.bool false)), none⟩])
  (.seq (.seq (.ops [⟨(some 6), .mov (.t 0), none⟩,
    ⟨(some 7), .len (.t 6), none⟩,
    ⟨(some 8), .mov (.t 1), none⟩,
    ⟨(some 9), .len (.t 8), none⟩,
    ⟨(some 10), .bin .neq .none (.t 7) (.t 9), none⟩])
  (.cond (.t 10)
   (.seq (.ops [⟨(some 4), .mov (.c (.bool false)), none⟩])
   (.ret))
   (.skip)))
  (.seq (.seq (.ops [⟨(some 5), .mov (.c (.int .i64 0)), none⟩])
  (.block 0 (.loop f43_M0 f43_L0)))
  (.seq (.ops [⟨(some 4), .mov (.c (.bool true)), none⟩])
  (.ret)))), 26, [.tmp 4]⟩
theorem f43_ok : compF Try.prog Try.f43 [[true, true, false, false, false, true, false, false, false, false, false, false, false, false, false, false, false, false, false, false, false, false, false, false, false, false]] = some f43 := by kernel_rfl

/-! 44: polyglot/polyglotref03.Text -/
def f44 : AFn := ⟨.seq (.ops [⟨(some 2), .mov (.c (.str [])), none⟩,
    ⟨(some 3), .mov (.c (.int .i64 0)), none⟩])
  (.seq (.seq (.ops [⟨(some 4), .mov (.t 0), none⟩,
    ⟨(some 5), .call (.c (.func (.func 48) [] [])) [(.t 4)], none⟩,
    ⟨(some 6), .not (.t 5), none⟩])
  (.cond (.t 6)
   (.seq (.ops [⟨(some 2), .mov (.c (.str [])), none⟩,
     ⟨(some 3), .mov (.c (.int .i64 6)), none⟩])
   (.ret))
   (.skip)))
  (.seq (.ops [⟨(some 7), .mov (.t 0), none⟩,
    ⟨(some 8), .lenS (.t 7), none⟩,
    ⟨(some 9), .conv .u64 (.t 8), none⟩,
    ⟨(some 10), .call (.c (.func (.func 58) [] [])) [(.t 9), (.c (.int .i64 2))], none⟩,
    ⟨(some 11), .mov (.t 0), none⟩,
    ⟨(some 12), .bin .add .none (.t 10) (.t 11), none⟩,
    ⟨(some 2), .mov (.t 12), none⟩,
    ⟨(some 3), .mov (.c (.int .i64 0)), none⟩])
  (.ret))), 13, [.tmp 2, .tmp 3]⟩
theorem f44_ok : compF Try.prog Try.f44 [] = some f44 := by kernel_rfl

/-! 45: polyglot/polyglotref03.Binary -/
def f45 : AFn := ⟨.seq (.ops [⟨(some 2), .mov (.c (.str [])), none⟩,
    ⟨(some 3), .mov (.c (.int .i64 0)), none⟩])
  (.seq (.seq (.ops [⟨(some 4), .mov (.t 0), none⟩,
    ⟨(some 5), .lenS (.t 4), none⟩,
    ⟨(some 6), .bin .gtr .none (.t 5) (.c (.int .i64 65535)), none⟩])
  (.cond (.t 6)
   (.seq (.ops [⟨(some 2), .mov (.c (.str [])), none⟩,
     ⟨(some 3), .mov (.c (.int .i64 2)), none⟩])
   (.ret))
   (.skip)))
  (.seq (.ops [⟨(some 7), .mov (.t 0), none⟩,
    ⟨(some 8), .lenS (.t 7), none⟩,
    ⟨(some 9), .conv .u64 (.t 8), none⟩,
    ⟨(some 10), .call (.c (.func (.func 58) [] [])) [(.t 9), (.c (.int .i64 2))], none⟩,
    ⟨(some 11), .mov (.t 0), none⟩,
    ⟨(some 12), .bin .add .none (.t 10) (.t 11), none⟩,
    ⟨(some 2), .mov (.t 12), none⟩,
    ⟨(some 3), .mov (.c (.int .i64 0)), none⟩])
  (.ret))), 13, [.tmp 2, .tmp 3]⟩
theorem f45_ok : compF Try.prog Try.f45 [] = some f45 := by kernel_rfl

/-! 46: polyglot/polyglotref03.Read -/
def f46 : AFn := ⟨.seq (.ops [⟨(some 2), .mov (.c (.str [])), none⟩,
    ⟨(some 3), .mov (.c (.int .i64 0)), none⟩,
    ⟨(some 4), .mov (.c (.int .i64 0)), none⟩])
  (.seq (.ops [⟨(some 9), .mov (.t 0), none⟩,
    ⟨(some 10), .call (.c (.func (.func 47) [] [])) [(.t 9)], none⟩,
    ⟨(some 8), .mov (.t 10), none⟩,
    ⟨(some 11), .extract (.t 8) 0, none⟩,
    ⟨(some 12), .extract (.t 8) 1, none⟩,
    ⟨(some 13), .extract (.t 8) 2, none⟩,
    ⟨(some 5), .mov (.t 11), none⟩,
    ⟨(some 6), .mov (.t 12), none⟩,
    ⟨(some 7), .mov (.t 13), none⟩])
  (.seq (.seq (.ops [⟨(some 14), .mov (.t 7), none⟩,
    ⟨(some 15), .bin .neq .none (.t 14) (.c (.int .i64 0)), none⟩])
  (.cond (.t 15)
   (.seq (.ops [⟨(some 16), .mov (.t 7), none⟩,
     ⟨(some 2), .mov (.c (.str [])), none⟩,
     ⟨(some 3), .mov (.c (.int .i64 0)), none⟩,
     ⟨(some 4), .mov (.t 16), none⟩])
   (.ret))
   (.skip)))
  (.seq (.seq (.ops [⟨(some 17), .mov (.t 5), none⟩,
    ⟨(some 18), .call (.c (.func (.func 48) [] [])) [(.t 17)], none⟩,
    ⟨(some 19), .not (.t 18), none⟩])
  (.cond (.t 19)
   (.seq (.ops [⟨(some 2), .mov (.c (.str [])), none⟩,
     ⟨(some 3), .mov (.c (.int .i64 0)), none⟩,
     ⟨(some 4), .mov (.c (.int .i64 6)), none⟩])
   (.ret))
   (.skip)))
  (.seq (.ops [⟨(some 20), .mov (.t 5), none⟩,
    ⟨(some 21), .mov (.t 6), none⟩,
    ⟨(some 2), .mov (.t 20), none⟩,
    ⟨(some 3), .mov (.t 21), none⟩,
    ⟨(some 4), .mov (.c (.int .i64 0)), none⟩])
  (.ret))))), 22, [.tmp 2, .tmp 3, .tmp 4]⟩
theorem f46_ok : compF Try.prog Try.f46 [] = some f46 := by kernel_rfl

/-! 47: polyglot/polyglotref03.ReadBinary -/
def f47 : AFn := ⟨.seq (.ops [⟨(some 2), .mov (.c (.str [])), none⟩,
    ⟨(some 3), .mov (.c (.int .i64 0)), none⟩,
    ⟨(some 4), .mov (.c (.int .i64 0)), none⟩])
  (.seq (.seq (.ops [⟨(some 6), .mov (.t 0), none⟩,
    ⟨(some 7), .lenS (.t 6), none⟩,
    ⟨(some 8), .bin .lss .none (.t 7) (.c (.int .i64 2)), none⟩])
  (.cond (.t 8)
   (.seq (.ops [⟨(some 2), .mov (.c (.str [])), none⟩,
     ⟨(some 3), .mov (.c (.int .i64 0)), none⟩,
     ⟨(some 4), .mov (.c (.int .i64 3)), none⟩])
   (.ret))
   (.skip)))
  (.seq (.ops [⟨(some 9), .mov (.t 0), none⟩,
    ⟨(some 10), .substr (.t 9) none (some (.c (.int .i64 2))), none⟩,
    ⟨(some 11), .call (.c (.func (.func 56) [] [])) [(.t 10)], none⟩,
    ⟨(some 12), .conv .i64 (.t 11), none⟩,
    ⟨(some 5), .mov (.t 12), none⟩])
  (.seq (.seq (.ops [⟨(some 13), .mov (.t 5), none⟩,
    ⟨(some 14), .mov (.t 0), none⟩,
    ⟨(some 15), .lenS (.t 14), none⟩,
    ⟨(some 16), .bin .sub .none (.t 15) (.c (.int .i64 2)), none⟩,
    ⟨(some 17), .bin .gtr .none (.t 13) (.t 16), none⟩])
  (.cond (.t 17)
   (.seq (.ops [⟨(some 2), .mov (.c (.str [])), none⟩,
     ⟨(some 3), .mov (.c (.int .i64 0)), none⟩,
     ⟨(some 4), .mov (.c (.int .i64 3)), none⟩])
   (.ret))
   (.skip)))
  (.seq (.ops [⟨(some 18), .mov (.t 0), none⟩,
    ⟨(some 19), .mov (.t 5), none⟩,
    ⟨(some 20), .bin .add .none (.c (.int .i64 2)) (.t 19), none⟩,
    ⟨(some 21), .substr (.t 18) (some (.c (.int .i64 2))) (some (.t 20)), none⟩,
    ⟨(some 22), .mov (.t 5), none⟩,
    ⟨(some 23), .bin .add .none (.c (.int .i64 2)) (.t 22), none⟩,
    ⟨(some 2), .mov (.t 21), none⟩,
    ⟨(some 3), .mov (.t 23), none⟩,
    ⟨(some 4), .mov (.c (.int .i64 0)), none⟩])
  (.ret))))), 24, [.tmp 2, .tmp 3, .tmp 4]⟩
theorem f47_ok : compF Try.prog Try.f47 [] = some f47 := by kernel_rfl

/-! 48: polyglot/polyglotref03.Valid -/
def f48 : AFn := ⟨.seq (.ops [⟨(some 2), .mov (.c (.bool false)), none⟩])
  (.seq (.ops [⟨(some 3), .mov (.t 0), none⟩,
    ⟨(some 4), .lenS (.t 3), none⟩,
    ⟨(some 5), .bin .leq .none (.t 4) (.c (.int .i64 65535)), none⟩,
    ⟨(some 6), .mov (.t 5), none⟩,
    ⟨(some 7), .mov (.t 0), (some (6, true))⟩,
    ⟨(some 8), .call (.c (.func (.func 49) [] [])) [(.t 7)], (some (6, true))⟩,
    ⟨(some 9), .bin .lss .none (.t 8) (.c (.int .i64 0)), (some (6, true))⟩,
    ⟨(some 10), .pick (.t 6) (.t 9) (.c (.bool false)), none⟩,
    ⟨(some 2), .mov (.t 10), none⟩])
  (.ret)), 11, [.tmp 2]⟩
theorem f48_ok : compF Try.prog Try.f48 [] = some f48 := by kernel_rfl

/-! 49: polyglot/polyglotref03.Bad -/
def f49_M0 : List Bool := [true, false, false, true, false, false, false, false, false, false, false, false, false, false, false, false, false, false, false, false, false, false, false, false, false, false]
def f49_L0 : AC := .seq (.seq (.ops [⟨(some 6), .mov (.t 3), none⟩,
    ⟨(some 7), .mov (.t 0), none⟩,
    ⟨(some 8), .lenS (.t 7), none⟩,
    ⟨(some 9), .bin .lss .none (.t 6) (.t 8), none⟩])
  (.cond (.t 9)
   (.skip)
   (.exit 0)))
  (.block 1 (.seq (.ops [⟨(some 11), .mov (.t 0), none⟩,
     ⟨(some 12), .mov (.t 3), none⟩,
     ⟨(some 13), .call (.c (.func (.func 59) [] [])) [(.t 11), (.t 12)], none⟩,
     ⟨(some 10), .mov (.t 13), none⟩,
     ⟨(some 14), .extract (.t 10) 0, none⟩,
     ⟨(some 15), .extract (.t 10) 1, none⟩,
     ⟨(some 4), .mov (.t 14), none⟩,
     ⟨(some 5), .mov (.t 15), none⟩])
   (.seq (.seq (.ops [⟨(some 16), .mov (.t 5), none⟩,
     ⟨(some 17), .bin .eql .none (.t 16) (.c (.int .i64 0)), none⟩,
     ⟨(some 18), .mov (.t 17), none⟩,
     ⟨(some 19), .mov (.t 4), (some (18, false))⟩,
     ⟨(some 20), .bin .eql .none (.t 19) (.c (.int .i64 0)), (some (18, false))⟩,
     ⟨(some 21), .pick (.t 18) (.c (.bool true)) (.t 20), none⟩])
   (.cond (.t 21)
    (.seq (.ops [⟨(some 22), .mov (.t 3), none⟩,
      ⟨(some 2), .mov (.t 22), none⟩])
    (.ret))
    (.skip)))
   (.ops [⟨(some 23), .mov (.t 3), none⟩,
     ⟨(some 24), .mov (.t 5), none⟩,
     ⟨(some 25), .bin .add .none (.t 23) (.t 24), none⟩,
     ⟨(some 3), .mov (.t 25), none⟩]))))
/-- live: [0, 3] -/
def f49_S0 (x0 x3 : AV) : List AV := [x0, .junk, .junk, x3, .junk, .junk, .junk, .junk, .junk, .junk, .junk, .junk, .junk, .junk, .junk, .junk, .junk, .junk, .junk, .junk, .junk, .junk, .junk, .junk, .junk, .junk]
def f49 : AFn := ⟨.seq (.ops [⟨(some 2), .mov (.c (.int .i64 0)), none⟩])
  (.seq (.seq (.ops [⟨(some 3), .mov (.c (.int .i64 0)), none⟩])
  (.block 0 (.loop f49_M0 f49_L0)))
  (.seq (.ops [⟨(some 2), .mov (.c (.int .i64 (-1))), none⟩])
  (.ret))), 26, [.tmp 2]⟩
theorem f49_ok : compF Try.prog Try.f49 [[true, false, false, true, false, false, false, false, false, false, false, false, false, false, false, false, false, false, false, false, false, false, false, false, false, false]] = some f49 := by kernel_rfl

/-! 50: polyglot/polyglotref03.Count -/
def f50 : AFn := ⟨.seq (.ops [⟨(some 2), .mov (.c (.int .i64 0)), none⟩])
  (.seq (.seq (.ops [⟨(some 3), .mov (.t 0), none⟩,
    ⟨(some 4), .call (.c (.func (.func 48) [] [])) [(.t 3)], none⟩,
    ⟨(some 5), .not (.t 4), none⟩])
  (.cond (.t 5)
   (.seq (.ops [⟨(some 2), .mov (.c (.int .i64 0)), none⟩])
   (.ret))
   (.skip)))
  (.seq (.ops [⟨(some 6), .mov (.t 0), none⟩,
    ⟨(some 7), .call (.c (.func (.func 51) [] [])) [(.t 6)], none⟩,
    ⟨(some 8), .len (.t 7), none⟩,
    ⟨(some 2), .mov (.t 8), none⟩])
  (.ret))), 9, [.tmp 2]⟩
theorem f50_ok : compF Try.prog Try.f50 [] = some f50 := by kernel_rfl

/-! 51: polyglot/polyglotref03.Runes -/
def f51_M0 : List Bool := [true, false, false, true, true, false, false, false, false, false, false, false, false, false, false, false, false, false, false, false, false, false, false, false, false, false, false, false, false, false, false, false, false, false, false]
def f51_L0 : AC := .seq (.seq (.ops [⟨(some 7), .mov (.t 4), none⟩,
    ⟨(some 8), .mov (.t 0), none⟩,
    ⟨(some 9), .lenS (.t 8), none⟩,
    ⟨(some 10), .bin .lss .none (.t 7) (.t 9), none⟩])
  (.cond (.t 10)
   (.skip)
   (.exit 0)))
  (.block 1 (.seq (.ops [⟨(some 12), .mov (.t 0), none⟩,
     ⟨(some 13), .mov (.t 4), none⟩,
     ⟨(some 14), .call (.c (.func (.func 59) [] [])) [(.t 12), (.t 13)], none⟩,
     ⟨(some 11), .mov (.t 14), none⟩,
     ⟨(some 15), .extract (.t 11) 0, none⟩,
     ⟨(some 16), .extract (.t 11) 1, none⟩,
     ⟨(some 5), .mov (.t 15), none⟩,
     ⟨(some 6), .mov (.t 16), none⟩])
   (.seq (.seq (.ops [⟨(some 17), .mov (.t 6), none⟩,
     ⟨(some 18), .bin .eql .none (.t 17) (.c (.int .i64 0)), none⟩,
     ⟨(some 19), .mov (.t 18), none⟩,
     ⟨(some 20), .mov (.t 5), (some (19, false))⟩,
     ⟨(some 21), .bin .eql .none (.t 20) (.c (.int .i64 0)), (some (19, false))⟩,
     ⟨(some 22), .pick (.t 19) (.c (.bool true)) (.t 21), none⟩])
   (.cond (.t 22)
    (.seq (.ops [⟨(some 23), .mov (.t 3), none⟩,
      ⟨(some 2), .mov (.t 23), none⟩])
    (.ret))
    (.skip)))
   (.seq (.ops [⟨(some 24), .mov (.t 3), none⟩,
     ⟨(some 25), .mov (.t 4), none⟩,
     ⟨(some 26), .mov (.t 5), none⟩,
     ⟨(some 27), .conv .i32 (.t 26), none⟩,
     ⟨(some 28), .build [.int .i64 0, .int .i32 0] [(0, 1, (.t 25)), (1, 1, (.t 27))], none⟩,
     ⟨(some 29), .buildSlice 2 1 [.junk, .junk] [(0, 2, (.t 28))], none⟩,
     ⟨(some 30), .append 2 16 (.t 24) (.t 29), none⟩,
     ⟨(some 3), .mov (.t 30), none⟩])
   (.ops [⟨(some 31), .mov (.t 4), none⟩,
     ⟨(some 32), .mov (.t 6), none⟩,
     ⟨(some 33), .bin .add .none (.t 31) (.t 32), none⟩,
     ⟨(some 4), .mov (.t 33), none⟩])))))
/-- live: [0, 3, 4] -/
def f51_S0 (x0 x3 x4 : AV) : List AV := [x0, .junk, .junk, x3, x4, .junk, .junk, .junk, .junk, .junk, .junk, .junk, .junk, .junk, .junk, .junk, .junk, .junk, .junk, .junk, .junk, .junk, .junk, .junk, .junk, .junk, .junk, .junk, .junk, .junk, .junk, .junk, .junk, .junk, .junk]
def f51 : AFn := ⟨.seq (.ops [⟨(some 2), .mov (.c (.nilslice)), none⟩])
  (.seq (.ops [⟨(some 3), .mov (.c (.nilslice)), none⟩])
  (.seq (.seq (.ops [⟨(some 4), .mov (.c (.int .i64 0)), none⟩])
  (.block 0 (.loop f51_M0 f51_L0)))
  (.seq (.ops [⟨(some 34), .mov (.t 3), none⟩,
    ⟨(some 2), .mov (.t 34), none⟩])
  (.ret)))), 35, [.tmp 2]⟩
theorem f51_ok : compF Try.prog Try.f51 [[true, false, false, true, true, false, false, false, false, false, false, false, false, false, false, false, false, false, false, false, false, false, false, false, false, false, false, false, false, false, false, false, false, false, false]] = some f51 := by kernel_rfl

/-! 52: polyglot/ustring.whole -/
def f52 : AFn := ⟨.seq (.ops [⟨(some 2), .mov (.c (.bool false)), none⟩])
  (.seq (.ops [⟨(some 3), .mov (.t 0), none⟩,
    ⟨(some 4), .lenS (.t 3), none⟩,
    ⟨(some 5), .bin .geq .none (.t 4) (.c (.int .i64 3)), none⟩,
    ⟨(some 6), .mov (.t 5), none⟩,
    ⟨(some 7), .mov (.t 0), (some (6, true))⟩,
    ⟨(some 8), .substr (.t 7) none (some (.c (.int .i64 3))), (some (6, true))⟩,
    ⟨(some 9), .bin .eql .none (.t 8) (.c (.str [239, 191, 189])), (some (6, true))⟩,
    ⟨(some 10), .pick (.t 6) (.t 9) (.c (.bool false)), none⟩,
    ⟨(some 2), .mov (.t 10), none⟩])
  (.ret)), 11, [.tmp 2]⟩
theorem f52_ok : compF Try.prog Try.f52 [] = some f52 := by kernel_rfl

/-! 53: polyglot/ustring.Runes -/
def f53 : AFn := ⟨.seq (.ops [⟨(some 1), .box (.t 0), none⟩,
    ⟨(some 2), .mov (.c (.nilFunc)), none⟩])
  (.seq (.ops [⟨(some 3), .mkfunc (.func 60) [] [(.t 1)], none⟩,
    ⟨(some 2), .mov (.t 3), none⟩])
  (.ret)), 4, [.tmp 2]⟩
theorem f53_ok : compF Try.prog Try.f53 [] = some f53 := by kernel_rfl

/-! 54: (*polyglot/octet.Cursor).ready -/
def f54 : AFn := ⟨.seq (.ops [⟨(some 2), .mov (.c (.bool false)), none⟩])
  (.seq (.ops [⟨(some 3), .mov (.t 0), none⟩,
    ⟨(some 4), .bin .neq .ptr (.t 3) (.c (.nilptr)), none⟩,
    ⟨(some 5), .mov (.t 4), none⟩,
    ⟨(some 6), .mov (.t 0), (some (5, true))⟩,
    ⟨(some 7), .nilCheck (.t 6), (some (5, true))⟩,
    ⟨(some 8), .fieldAddr 2 (.t 7), (some (5, true))⟩,
    ⟨(some 9), .load1 (.t 8), (some (5, true))⟩,
    ⟨(some 10), .bin .eql .none (.t 9) (.c (.int .i64 0)), (some (5, true))⟩,
    ⟨(some 11), .pick (.t 5) (.t 10) (.c (.bool false)), none⟩,
    ⟨(some 2), .mov (.t 11), none⟩])
  (.ret)), 12, [.tmp 2]⟩
theorem f54_ok : compF Try.prog Try.f54 [] = some f54 := by kernel_rfl

/-! 55: (*polyglot/octet.Cursor).has -/
def f55 : AFn := ⟨.seq (.ops [⟨(some 4), .mov (.c (.bool false)), none⟩])
  (.seq (.quiet [⟨(some 5), .mov (.t 1), none⟩,
    ⟨(some 6), .bin .geq .none (.t 5) (.c (.int .i64 0)), none⟩,
    ⟨(some 7), .mov (.t 6), none⟩,
    ⟨(some 8), .mov (.t 1), (some (7, true))⟩,
    ⟨(some 9), .mov (.t 0), (some (7, true))⟩,
    ⟨(some 10), .nilCheck (.t 9), (some (7, true))⟩,
    ⟨(some 11), .fieldAddr 0 (.t 10), (some (7, true))⟩,
    ⟨(some 12), .load1 (.t 11), (some (7, true))⟩,
    ⟨(some 13), .lenS (.t 12), (some (7, true))⟩,
    ⟨(some 14), .mov (.t 0), (some (7, true))⟩,
    ⟨(some 15), .nilCheck (.t 14), (some (7, true))⟩,
    ⟨(some 16), .fieldAddr 1 (.t 15), (some (7, true))⟩,
    ⟨(some 17), .load1 (.t 16), (some (7, true))⟩,
    ⟨(some 18), .bin .sub .none (.t 13) (.t 17), (some (7, true))⟩,
    ⟨(some 19), .bin .leq .none (.t 8) (.t 18), (some (7, true))⟩,
    ⟨(some 20), .pick (.t 7) (.t 19) (.c (.bool false)), none⟩,
    ⟨(some 4), .mov (.t 20), none⟩])
  (.ret)), 21, [.tmp 4]⟩
theorem f55_ok : compF Try.prog Try.f55 [] = some f55 := by kernel_rfl

/-! 56: polyglot/polyglotref01.Get -/
def f56_M0 : List Bool := [true, false, false, true, true, false, false, false, false, false, false, false, false, false, false, false, false, false, false, false, false, false, false]
def f56_L0 : AC := .seq (.seq (.ops [⟨(some 9), .mov (.t 4), none⟩,
    ⟨(some 10), .mov (.t 0), none⟩,
    ⟨(some 11), .lenS (.t 10), none⟩,
    ⟨(some 12), .bin .lss .none (.t 9) (.t 11), none⟩])
  (.cond (.t 12)
   (.skip)
   (.exit 0)))
  (.seq (.block 1 (.ops [⟨(some 15), .mov (.t 3), none⟩,
     ⟨(some 16), .bin .shl .none (.t 15) (.c (.int .u64 8)), none⟩,
     ⟨(some 17), .mov (.t 0), none⟩,
     ⟨(some 18), .mov (.t 4), none⟩,
     ⟨(some 19), .indexStr (.t 17) (.t 18), none⟩,
     ⟨(some 20), .conv .u64 (.t 19), none⟩,
     ⟨(some 21), .bin .or .none (.t 16) (.t 20), none⟩,
     ⟨(some 3), .mov (.t 21), none⟩]))
  (.ops [⟨(some 13), .mov (.t 4), none⟩,
    ⟨(some 14), .bin .add .none (.t 13) (.c (.int .i64 1)), none⟩,
    ⟨(some 4), .mov (.t 14), none⟩]))
/-- live: [0, 3, 4] -/
def f56_S0 (x0 x3 x4 : AV) : List AV := [x0, .junk, .junk, x3, x4, .junk, .junk, .junk, .junk, .junk, .junk, .junk, .junk, .junk, .junk, .junk, .junk, .junk, .junk, .junk, .junk, .junk, .junk]
def f56 : AFn := ⟨.seq (.ops [⟨(some 2), .mov (.c (.int .u64 0)), none⟩])
  (.seq (.ops [⟨(some 3), .mov (.c (.int .u64 0)), none⟩])
  (.seq (.seq (.ops [⟨(some 5), .mov (.t 0), none⟩,
    ⟨(some 6), .lenS (.t 5), none⟩,
    ⟨(some 7), .bin .sub .none (.t 6) (.c (.int .i64 8)), none⟩,
    ⟨(some 8), .max (.c (.int .i64 0)) (.t 7), none⟩,
    ⟨(some 4), .mov (.t 8), none⟩])
  (.block 0 (.loop f56_M0 f56_L0)))
  (.seq (.ops [⟨(some 22), .mov (.t 3), none⟩,
    ⟨(some 2), .mov (.t 22), none⟩])
  (.ret)))), 23, [.tmp 2]⟩
theorem f56_ok : compF Try.prog Try.f56 [[true, false, false, true, true, false, false, false, false, false, false, false, false, false, false, false, false, false, false, false, false, false, false]] = some f56 := by kernel_rfl

/-! 57: polyglot/ustring.framed -/
def f57 : AFn := ⟨.seq (.ops [⟨(some 2), .mov (.c (.str [])), none⟩])
  (.seq (.ops [⟨(some 3), .mov (.t 0), none⟩,
    ⟨(some 4), .lenS (.t 3), none⟩,
    ⟨(some 5), .conv .u64 (.t 4), none⟩,
    ⟨(some 6), .call (.c (.func (.func 14) [] [])) [(.t 5), (.c (.int .i64 2))], none⟩,
    ⟨(some 7), .mov (.t 0), none⟩,
    ⟨(some 8), .bin .add .none (.t 6) (.t 7), none⟩,
    ⟨(some 2), .mov (.t 8), none⟩])
  (.ret)), 9, [.tmp 2]⟩
theorem f57_ok : compF Try.prog Try.f57 [] = some f57 := by kernel_rfl

/-! 58: polyglot/polyglotref01.Put -/
def f58_M0 : List Bool := [true, false, false, false, false, true, true, false, false, false, false, false, false, false, false, false, false, false, false, false, false, false, false, false, false, false, false, false, false, false]
def f58_L0 : AC := .seq (.seq (.ops [⟨(some 12), .mov (.t 6), none⟩,
    ⟨(some 13), .bin .geq .none (.t 12) (.c (.int .i64 0)), none⟩])
  (.cond (.t 13)
   (.skip)
   (.exit 0)))
  (.seq (.block 1 (.seq (.ops [⟨(some 7), .mov (.c (.int .u8 0)), none⟩])
   (.seq (.seq (.ops [⟨(some 16), .mov (.t 6), none⟩,
     ⟨(some 17), .bin .lss .none (.t 16) (.c (.int .i64 8)), none⟩])
   (.cond (.t 17)
    (.ops [⟨(some 18), .mov (.t 0), none⟩,
      ⟨(some 19), .mov (.t 6), none⟩,
      ⟨(some 20), .bin .mul .none (.c (.int .i64 8)) (.t 19), none⟩,
      ⟨(some 21), .conv .u64 (.t 20), none⟩,
      ⟨(some 22), .bin .shr .none (.t 18) (.t 21), none⟩,
      ⟨(some 23), .conv .u8 (.t 22), none⟩,
      ⟨(some 7), .mov (.t 23), none⟩])
    (.skip)))
   (.ops [⟨(some 24), .mov (.t 5), none⟩,
     ⟨(some 25), .mov (.t 7), none⟩,
     ⟨(some 26), .buildSlice 1 1 [.junk] [(0, 1, (.t 25))], none⟩,
     ⟨(some 27), .append 1 1 (.t 24) (.t 26), none⟩,
     ⟨(some 5), .mov (.t 27), none⟩]))))
  (.ops [⟨(some 14), .mov (.t 6), none⟩,
    ⟨(some 15), .bin .sub .none (.t 14) (.c (.int .i64 1)), none⟩,
    ⟨(some 6), .mov (.t 15), none⟩]))
/-- live: [0, 5, 6] -/
def f58_S0 (x0 x5 x6 : AV) : List AV := [x0, .junk, .junk, .junk, .junk, x5, x6, .junk, .junk, .junk, .junk, .junk, .junk, .junk, .junk, .junk, .junk, .junk, .junk, .junk, .junk, .junk, .junk, .junk, .junk, .junk, .junk, .junk, .junk, .junk]
def f58 : AFn := ⟨.seq (.ops [⟨(some 4), .mov (.c (.str [])), none⟩])
  (.seq (.ops [⟨(some 5), .mov (.c (.nilslice)), none⟩])
  (.seq (.seq (.ops [⟨(some 8), .mov (.t 1), none⟩,
    ⟨(some 9), .min (.t 8) (.c (.int .i64 16)), none⟩,
    ⟨(some 10), .max (.c (.int .i64 0)) (.t 9), none⟩,
    ⟨(some 11), .bin .sub .none (.t 10) (.c (.int .i64 1)), none⟩,
    ⟨(some 6), .mov (.t 11), none⟩])
  (.block 0 (.loop f58_M0 f58_L0)))
  (.seq (.ops [⟨(some 28), .mov (.t 5), none⟩,
    ⟨(some 29), .b2s (.t 28), none⟩,
    ⟨(some 4), .mov (.t 29), none⟩])
  (.ret)))), 30, [.tmp 4]⟩
theorem f58_ok : compF Try.prog Try.f58 [[true, false, false, false, false, true, true, false, false, false, false, false, false, false, false, false, false, false, false, false, false, false, false, false, false, false, false, false, false, false]] = some f58 := by kernel_rfl

/-! 59: polyglot/polyglotref03.Point -/
def f59_M0 : List Bool := [true, true, false, false, false, false, true, true, true, true, false, false, false, false, false, false, false, false, false, false, false, false, false, false, false, false, false, false, false, false, false, false, false, false, false, false, false, false, false, false, false, false, false, false, false, false, false, false, false, false, false, false, false, false, false, false, false, false, false, false, false, false, false, false, false, false, false, false, false, false, false, false, false, false, false, false, false, false, false, false, false, false, false]
def f59_L0 : AC := .seq (.seq (.ops [⟨(some 47), .mov (.t 9), none⟩,
    ⟨(some 48), .mov (.t 7), none⟩,
    ⟨(some 49), .bin .lss .none (.t 47) (.t 48), none⟩])
  (.cond (.t 49)
   (.skip)
   (.exit 1)))
  (.seq (.block 2 (.seq (.ops [⟨(some 53), .mov (.t 0), none⟩,
     ⟨(some 54), .mov (.t 1), none⟩,
     ⟨(some 55), .mov (.t 9), none⟩,
     ⟨(some 56), .bin .add .none (.t 54) (.t 55), none⟩,
     ⟨(some 57), .call (.c (.func (.func 61) [] [])) [(.t 53), (.t 56)], none⟩,
     ⟨(some 52), .mov (.t 57), none⟩,
     ⟨(some 58), .extract (.t 52) 0, none⟩,
     ⟨(some 59), .extract (.t 52) 1, none⟩,
     ⟨(some 10), .mov (.t 58), none⟩,
     ⟨(some 11), .mov (.t 59), none⟩])
   (.seq (.seq (.ops [⟨(some 60), .mov (.t 11), none⟩,
     ⟨(some 61), .not (.t 60), none⟩])
   (.cond (.t 61)
    (.seq (.ops [⟨(some 4), .mov (.c (.int .i64 0)), none⟩,
      ⟨(some 5), .mov (.c (.int .i64 0)), none⟩])
    (.ret))
    (.skip)))
   (.ops [⟨(some 62), .mov (.t 6), none⟩,
     ⟨(some 63), .bin .mul .none (.c (.int .i64 64)) (.t 62), none⟩,
     ⟨(some 64), .mov (.t 10), none⟩,
     ⟨(some 65), .bin .add .none (.t 63) (.t 64), none⟩,
     ⟨(some 6), .mov (.t 65), none⟩]))))
  (.ops [⟨(some 50), .mov (.t 9), none⟩,
    ⟨(some 51), .bin .add .none (.t 50) (.c (.int .i64 1)), none⟩,
    ⟨(some 9), .mov (.t 51), none⟩]))
/-- live: [0, 1, 6, 7, 8, 9] -/
def f59_S0 (x0 x1 x6 x7 x8 x9 : AV) : List AV := [x0, x1, .junk, .junk, .junk, .junk, x6, x7, x8, x9, .junk, .junk, .junk, .junk, .junk, .junk, .junk, .junk, .junk, .junk, .junk, .junk, .junk, .junk, .junk, .junk, .junk, .junk, .junk, .junk, .junk, .junk, .junk, .junk, .junk, .junk, .junk, .junk, .junk, .junk, .junk, .junk, .junk, .junk, .junk, .junk, .junk, .junk, .junk, .junk, .junk, .junk, .junk, .junk, .junk, .junk, .junk, .junk, .junk, .junk, .junk, .junk, .junk, .junk, .junk, .junk, .junk, .junk, .junk, .junk, .junk, .junk, .junk, .junk, .junk, .junk, .junk, .junk, .junk, .junk, .junk, .junk, .junk]
def f59 : AFn := ⟨.seq (.ops [⟨(some 4), .mov (.c (.int .i64 0)), none⟩,
    ⟨(some 5), .mov (.c (.int .i64 0)), none⟩])
  (.seq (.ops [⟨(some 12), .mov (.t 0), none⟩,
    ⟨(some 13), .mov (.t 1), none⟩,
    ⟨(some 14), .indexStr (.t 12) (.t 13), none⟩,
    ⟨(some 15), .conv .i64 (.t 14), none⟩,
    ⟨(some 6), .mov (.t 15), none⟩,
    ⟨(some 7), .mov (.c (.int .i64 1)), none⟩,
    ⟨(some 8), .mov (.c (.int .i64 0)), none⟩])
  (.seq (.block 0 (.seq (.ops [⟨(some 17), .mov (.t 6), none⟩,
     ⟨(some 18), .bin .lss .none (.t 17) (.c (.int .i64 128)), none⟩,
     ⟨(some 16), .mov (.t 18), none⟩])
   (.cond (.t 16)
    (.seq (.ops [⟨(some 19), .mov (.t 6), none⟩,
      ⟨(some 4), .mov (.t 19), none⟩,
      ⟨(some 5), .mov (.c (.int .i64 1)), none⟩])
    (.ret))
    (.seq (.ops [⟨(some 21), .mov (.t 6), none⟩,
      ⟨(some 22), .bin .geq .none (.t 21) (.c (.int .i64 192)), none⟩,
      ⟨(some 23), .mov (.t 22), none⟩,
      ⟨(some 24), .mov (.t 6), (some (23, true))⟩,
      ⟨(some 25), .bin .lss .none (.t 24) (.c (.int .i64 224)), (some (23, true))⟩,
      ⟨(some 26), .pick (.t 23) (.t 25) (.c (.bool false)), none⟩,
      ⟨(some 20), .mov (.t 26), none⟩])
    (.cond (.t 20)
     (.ops [⟨(some 27), .mov (.t 6), none⟩,
       ⟨(some 28), .bin .sub .none (.t 27) (.c (.int .i64 192)), none⟩,
       ⟨(some 6), .mov (.t 28), none⟩,
       ⟨(some 7), .mov (.c (.int .i64 2)), none⟩,
       ⟨(some 8), .mov (.c (.int .i64 128)), none⟩])
     (.seq (.ops [⟨(some 30), .mov (.t 6), none⟩,
       ⟨(some 31), .bin .geq .none (.t 30) (.c (.int .i64 224)), none⟩,
       ⟨(some 32), .mov (.t 31), none⟩,
       ⟨(some 33), .mov (.t 6), (some (32, true))⟩,
       ⟨(some 34), .bin .lss .none (.t 33) (.c (.int .i64 240)), (some (32, true))⟩,
       ⟨(some 35), .pick (.t 32) (.t 34) (.c (.bool false)), none⟩,
       ⟨(some 29), .mov (.t 35), none⟩])
     (.cond (.t 29)
      (.ops [⟨(some 36), .mov (.t 6), none⟩,
        ⟨(some 37), .bin .sub .none (.t 36) (.c (.int .i64 224)), none⟩,
        ⟨(some 6), .mov (.t 37), none⟩,
        ⟨(some 7), .mov (.c (.int .i64 3)), none⟩,
        ⟨(some 8), .mov (.c (.int .i64 2048)), none⟩])
      (.seq (.ops [⟨(some 39), .mov (.t 6), none⟩,
        ⟨(some 40), .bin .geq .none (.t 39) (.c (.int .i64 240)), none⟩,
        ⟨(some 41), .mov (.t 40), none⟩,
        ⟨(some 42), .mov (.t 6), (some (41, true))⟩,
        ⟨(some 43), .bin .lss .none (.t 42) (.c (.int .i64 248)), (some (41, true))⟩,
        ⟨(some 44), .pick (.t 41) (.t 43) (.c (.bool false)), none⟩,
        ⟨(some 38), .mov (.t 44), none⟩])
      (.cond (.t 38)
       (.ops [⟨(some 45), .mov (.t 6), none⟩,
         ⟨(some 46), .bin .sub .none (.t 45) (.c (.int .i64 240)), none⟩,
         ⟨(some 6), .mov (.t 46), none⟩,
         ⟨(some 7), .mov (.c (.int .i64 4)), none⟩,
         ⟨(some 8), .mov (.c (.int .i64 65536)), none⟩])
       (.seq (.ops [⟨(some 4), .mov (.c (.int .i64 0)), none⟩,
         ⟨(some 5), .mov (.c (.int .i64 0)), none⟩])
       (.ret)))))))))))
  (.seq (.seq (.ops [⟨(some 9), .mov (.c (.int .i64 1)), none⟩])
  (.block 1 (.loop f59_M0 f59_L0)))
  (.seq (.seq (.ops [⟨(some 66), .mov (.t 6), none⟩,
    ⟨(some 67), .mov (.t 8), none⟩,
    ⟨(some 68), .bin .lss .none (.t 66) (.t 67), none⟩,
    ⟨(some 69), .mov (.t 68), none⟩,
    ⟨(some 70), .mov (.t 6), (some (69, false))⟩,
    ⟨(some 71), .bin .gtr .none (.t 70) (.c (.int .i64 1114111)), (some (69, false))⟩,
    ⟨(some 72), .pick (.t 69) (.c (.bool true)) (.t 71), none⟩,
    ⟨(some 73), .mov (.t 72), none⟩,
    ⟨(some 74), .mov (.t 6), (some (73, false))⟩,
    ⟨(some 75), .bin .geq .none (.t 74) (.c (.int .i64 55296)), (some (73, false))⟩,
    ⟨(some 76), .mov (.t 75), (some (73, false))⟩,
    ⟨(some 77), .mov (.t 6), (some (76, true))⟩,
    ⟨(some 78), .bin .leq .none (.t 77) (.c (.int .i64 57343)), (some (76, true))⟩,
    ⟨(some 79), .pick (.t 76) (.t 78) (.c (.bool false)), (some (73, false))⟩,
    ⟨(some 80), .pick (.t 73) (.c (.bool true)) (.t 79), none⟩])
  (.cond (.t 80)
   (.seq (.ops [⟨(some 4), .mov (.c (.int .i64 0)), none⟩,
     ⟨(some 5), .mov (.c (.int .i64 0)), none⟩])
   (.ret))
   (.skip)))
  (.seq (.ops [⟨(some 81), .mov (.t 6), none⟩,
    ⟨(some 82), .mov (.t 7), none⟩,
    ⟨(some 4), .mov (.t 81), none⟩,
    ⟨(some 5), .mov (.t 82), none⟩])
  (.ret)))))), 83, [.tmp 4, .tmp 5]⟩
theorem f59_ok : compF Try.prog Try.f59 [[true, true, false, false, false, false, true, true, true, true, false, false, false, false, false, false, false, false, false, false, false, false, false, false, false, false, false, false, false, false, false, false, false, false, false, false, false, false, false, false, false, false, false, false, false, false, false, false, false, false, false, false, false, false, false, false, false, false, false, false, false, false, false, false, false, false, false, false, false, false, false, false, false, false, false, false, false, false, false, false, false, false, false]] = some f59 := by kernel_rfl

/-! 60: polyglot/ustring.Runes$1 -/
def f60_M0 : List Bool := [true, false, false, false, false, false, false, false, false, false, false, false, false, false, false, true, false, false, false, false, false, false, false, false, false]
def f60_L0 : AC := .seq (.ops [⟨(some 16), .next (.t 15), none⟩,
    ⟨(some 17), .extract (.t 16) 0, none⟩])
  (.seq (.cond (.t 17)
   (.skip)
   (.exit 0))
  (.block 1 (.seq (.ops [⟨(some 18), .extract (.t 16) 1, none⟩,
     ⟨(some 19), .extract (.t 16) 2, none⟩,
     ⟨(some 4), .mov (.t 18), none⟩,
     ⟨(some 5), .mov (.t 19), none⟩])
   (.seq (.ops [⟨(some 20), .mov (.t 0), none⟩,
     ⟨(some 21), .mov (.t 4), none⟩,
     ⟨(some 22), .mov (.t 5), none⟩,
     ⟨(some 23), .call (.t 20) [(.t 21), (.t 22)], none⟩,
     ⟨(some 24), .not (.t 23), none⟩])
   (.cond (.t 24)
    (.ret)
    (.skip))))))
/-- live: [0, 15] -/
def f60_S0 (x0 x15 : AV) : List AV := [x0, .junk, .junk, .junk, .junk, .junk, .junk, .junk, .junk, .junk, .junk, .junk, .junk, .junk, .junk, x15, .junk, .junk, .junk, .junk, .junk, .junk, .junk, .junk, .junk]
def f60 : AFn := ⟨.seq (.ops [⟨(some 6), .load1 (.t 1), none⟩,
    ⟨(some 7), .call (.c (.func (.func 19) [] [])) [(.t 6)], none⟩,
    ⟨(some 3), .mov (.t 7), none⟩])
  (.seq (.seq (.ops [⟨(some 8), .mov (.t 3), none⟩,
    ⟨(some 9), .bin .lss .none (.t 8) (.c (.int .i64 0)), none⟩])
  (.cond (.t 9)
   (.ops [⟨(some 10), .load1 (.t 1), none⟩,
     ⟨(some 11), .lenS (.t 10), none⟩,
     ⟨(some 3), .mov (.t 11), none⟩])
   (.skip)))
  (.seq (.ops [⟨(some 12), .load1 (.t 1), none⟩,
    ⟨(some 13), .mov (.t 3), none⟩,
    ⟨(some 14), .substr (.t 12) none (some (.t 13)), none⟩,
    ⟨(some 15), .range (.t 14), none⟩])
  (.block 0 (.loop f60_M0 f60_L0)))), 25, []⟩
theorem f60_ok : compF Try.prog Try.f60 [[true, false, false, false, false, false, false, false, false, false, false, false, false, false, false, true, false, false, false, false, false, false, false, false, false]] = some f60 := by kernel_rfl

/-! 61: polyglot/polyglotref03.more -/
def f61 : AFn := ⟨.seq (.ops [⟨(some 4), .mov (.c (.int .i64 0)), none⟩,
    ⟨(some 5), .mov (.c (.bool false)), none⟩])
  (.seq (.seq (.ops [⟨(some 6), .mov (.t 1), none⟩,
    ⟨(some 7), .mov (.t 0), none⟩,
    ⟨(some 8), .lenS (.t 7), none⟩,
    ⟨(some 9), .bin .geq .none (.t 6) (.t 8), none⟩,
    ⟨(some 10), .mov (.t 9), none⟩,
    ⟨(some 11), .mov (.t 0), (some (10, false))⟩,
    ⟨(some 12), .mov (.t 1), (some (10, false))⟩,
    ⟨(some 13), .indexStr (.t 11) (.t 12), (some (10, false))⟩,
    ⟨(some 14), .bin .lss .none (.t 13) (.c (.int .u8 128)), (some (10, false))⟩,
    ⟨(some 15), .pick (.t 10) (.c (.bool true)) (.t 14), none⟩,
    ⟨(some 16), .mov (.t 15), none⟩,
    ⟨(some 17), .mov (.t 0), (some (16, false))⟩,
    ⟨(some 18), .mov (.t 1), (some (16, false))⟩,
    ⟨(some 19), .indexStr (.t 17) (.t 18), (some (16, false))⟩,
    ⟨(some 20), .bin .gtr .none (.t 19) (.c (.int .u8 191)), (some (16, false))⟩,
    ⟨(some 21), .pick (.t 16) (.c (.bool true)) (.t 20), none⟩])
  (.cond (.t 21)
   (.seq (.ops [⟨(some 4), .mov (.c (.int .i64 0)), none⟩,
     ⟨(some 5), .mov (.c (.bool false)), none⟩])
   (.ret))
   (.skip)))
  (.seq (.ops [⟨(some 22), .mov (.t 0), none⟩,
    ⟨(some 23), .mov (.t 1), none⟩,
    ⟨(some 24), .indexStr (.t 22) (.t 23), none⟩,
    ⟨(some 25), .conv .i64 (.t 24), none⟩,
    ⟨(some 26), .bin .sub .none (.t 25) (.c (.int .i64 128)), none⟩,
    ⟨(some 4), .mov (.t 26), none⟩,
    ⟨(some 5), .mov (.c (.bool true)), none⟩])
  (.ret))), 27, [.tmp 4, .tmp 5]⟩
theorem f61_ok : compF Try.prog Try.f61 [] = some f61 := by kernel_rfl

def F : FuncId → Option AFn
  | 3 => some f3
  | 4 => some f4
  | 5 => some f5
  | 6 => some f6
  | 7 => some f7
  | 8 => some f8
  | 9 => some f9
  | 10 => some f10
  | 11 => some f11
  | 12 => some f12
  | 13 => some f13
  | 14 => some f14
  | 15 => some f15
  | 16 => some f16
  | 17 => some f17
  | 18 => some f18
  | 19 => some f19
  | 20 => some f20
  | 21 => some f21
  | 22 => some f22
  | 23 => some f23
  | 24 => some f24
  | 25 => some f25
  | 26 => some f26
  | 27 => some f27
  | 28 => some f28
  | 29 => some f29
  | 30 => some f30
  | 31 => some f31
  | 32 => some f32
  | 33 => some f33
  | 34 => some f34
  | 35 => some f35
  | 36 => some f36
  | 37 => some f37
  | 38 => some f38
  | 39 => some f39
  | 40 => some f40
  | 41 => some f41
  | 42 => some f42
  | 43 => some f43
  | 44 => some f44
  | 45 => some f45
  | 46 => some f46
  | 47 => some f47
  | 48 => some f48
  | 49 => some f49
  | 50 => some f50
  | 51 => some f51
  | 52 => some f52
  | 53 => some f53
  | 54 => some f54
  | 55 => some f55
  | 56 => some f56
  | 57 => some f57
  | 58 => some f58
  | 59 => some f59
  | 60 => some f60
  | 61 => some f61
  | _ => none

theorem F_ok : FOk Try.prog F := by
  intro f fa h
  unfold F at h
  split at h
  · cases h; exact ⟨_, _, Try.func3, f3_ok⟩
  · cases h; exact ⟨_, _, Try.func4, f4_ok⟩
  · cases h; exact ⟨_, _, Try.func5, f5_ok⟩
  · cases h; exact ⟨_, _, Try.func6, f6_ok⟩
  · cases h; exact ⟨_, _, Try.func7, f7_ok⟩
  · cases h; exact ⟨_, _, Try.func8, f8_ok⟩
  · cases h; exact ⟨_, _, Try.func9, f9_ok⟩
  · cases h; exact ⟨_, _, Try.func10, f10_ok⟩
  · cases h; exact ⟨_, _, Try.func11, f11_ok⟩
  · cases h; exact ⟨_, _, Try.func12, f12_ok⟩
  · cases h; exact ⟨_, _, Try.func13, f13_ok⟩
  · cases h; exact ⟨_, _, Try.func14, f14_ok⟩
  · cases h; exact ⟨_, _, Try.func15, f15_ok⟩
  · cases h; exact ⟨_, _, Try.func16, f16_ok⟩
  · cases h; exact ⟨_, _, Try.func17, f17_ok⟩
  · cases h; exact ⟨_, _, Try.func18, f18_ok⟩
  · cases h; exact ⟨_, _, Try.func19, f19_ok⟩
  · cases h; exact ⟨_, _, Try.func20, f20_ok⟩
  · cases h; exact ⟨_, _, Try.func21, f21_ok⟩
  · cases h; exact ⟨_, _, Try.func22, f22_ok⟩
  · cases h; exact ⟨_, _, Try.func23, f23_ok⟩
  · cases h; exact ⟨_, _, Try.func24, f24_ok⟩
  · cases h; exact ⟨_, _, Try.func25, f25_ok⟩
  · cases h; exact ⟨_, _, Try.func26, f26_ok⟩
  · cases h; exact ⟨_, _, Try.func27, f27_ok⟩
  · cases h; exact ⟨_, _, Try.func28, f28_ok⟩
  · cases h; exact ⟨_, _, Try.func29, f29_ok⟩
  · cases h; exact ⟨_, _, Try.func30, f30_ok⟩
  · cases h; exact ⟨_, _, Try.func31, f31_ok⟩
  · cases h; exact ⟨_, _, Try.func32, f32_ok⟩
  · cases h; exact ⟨_, _, Try.func33, f33_ok⟩
  · cases h; exact ⟨_, _, Try.func34, f34_ok⟩
  · cases h; exact ⟨_, _, Try.func35, f35_ok⟩
  · cases h; exact ⟨_, _, Try.func36, f36_ok⟩
  · cases h; exact ⟨_, _, Try.func37, f37_ok⟩
  · cases h; exact ⟨_, _, Try.func38, f38_ok⟩
  · cases h; exact ⟨_, _, Try.func39, f39_ok⟩
  · cases h; exact ⟨_, _, Try.func40, f40_ok⟩
  · cases h; exact ⟨_, _, Try.func41, f41_ok⟩
  · cases h; exact ⟨_, _, Try.func42, f42_ok⟩
  · cases h; exact ⟨_, _, Try.func43, f43_ok⟩
  · cases h; exact ⟨_, _, Try.func44, f44_ok⟩
  · cases h; exact ⟨_, _, Try.func45, f45_ok⟩
  · cases h; exact ⟨_, _, Try.func46, f46_ok⟩
  · cases h; exact ⟨_, _, Try.func47, f47_ok⟩
  · cases h; exact ⟨_, _, Try.func48, f48_ok⟩
  · cases h; exact ⟨_, _, Try.func49, f49_ok⟩
  · cases h; exact ⟨_, _, Try.func50, f50_ok⟩
  · cases h; exact ⟨_, _, Try.func51, f51_ok⟩
  · cases h; exact ⟨_, _, Try.func52, f52_ok⟩
  · cases h; exact ⟨_, _, Try.func53, f53_ok⟩
  · cases h; exact ⟨_, _, Try.func54, f54_ok⟩
  · cases h; exact ⟨_, _, Try.func55, f55_ok⟩
  · cases h; exact ⟨_, _, Try.func56, f56_ok⟩
  · cases h; exact ⟨_, _, Try.func57, f57_ok⟩
  · cases h; exact ⟨_, _, Try.func58, f58_ok⟩
  · cases h; exact ⟨_, _, Try.func59, f59_ok⟩
  · cases h; exact ⟨_, _, Try.func60, f60_ok⟩
  · cases h; exact ⟨_, _, Try.func61, f61_ok⟩
  · cases h

end Go.Proofs.Ytidlbhppbopjjaa.Ax

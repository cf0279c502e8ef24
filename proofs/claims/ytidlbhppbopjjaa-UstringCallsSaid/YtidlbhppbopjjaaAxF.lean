/-
Functions of the program, compiled for the abstract machine (by a program of ours).
-/
import Derived.Test.YtidlbhppbopjjaaKxB
import Derived.Test.YtidlbhppbopjjaaProg
import Derived.KernelRfl
namespace Go.Proofs.Ytidlbhppbopjjaa.Ax
open Go.Ax
set_option maxRecDepth 100000

/-! 3: polyglot/polyglotlaw01.OctetBack -/
def f3 : AFn := ⟨.seq (.ops [⟨(some 8), .mov (.c (.bool false)), none, [8]⟩])
  (.seq (.seq (.ops [⟨(some 12), .call (.c (.func (.func 12) [] [])) [], none, []⟩,
    ⟨(some 13), .not (.t 12), none, [12]⟩])
  (.cond (.t 13)
   (.seq (.ops [⟨(some 8), .mov (.c (.bool false)), none, [13]⟩])
   (.ret))
   (.skip)))
  (.seq (.ops [⟨(some 14), .mov (.t 2), none, [13, 2]⟩,
    ⟨(some 15), .call (.c (.func (.func 13) [] [])) [(.t 14), (.c (.int .i64 9))], none, [14]⟩,
    ⟨(some 2), .mov (.t 15), none, [15]⟩])
  (.seq (.ops [⟨(some 9), .mov (.c (.int .u64 18446744073709551615)), none, []⟩])
  (.seq (.seq (.ops [⟨(some 16), .mov (.t 2), none, []⟩,
    ⟨(some 17), .bin .lss .none (.t 16) (.c (.int .i64 8)), none, [16]⟩])
  (.cond (.t 17)
   (.ops [⟨(some 18), .mov (.t 2), none, [17]⟩,
     ⟨(some 19), .bin .mul .none (.c (.int .i64 8)) (.t 18), none, [18]⟩,
     ⟨(some 20), .conv .u64 (.t 19), none, [19]⟩,
     ⟨(some 21), .bin .shl .none (.c (.int .u64 1)) (.t 20), none, [20]⟩,
     ⟨(some 22), .bin .sub .none (.t 21) (.c (.int .u64 1)), none, [21]⟩,
     ⟨(some 9), .mov (.t 22), none, [22]⟩])
   (.skip)))
  (.seq (.ops [⟨(some 23), .mov (.t 0), none, [17]⟩,
    ⟨(some 24), .mov (.t 2), none, []⟩,
    ⟨(some 25), .call (.c (.func (.func 14) [] [])) [(.t 23), (.t 24)], none, [23, 24]⟩,
    ⟨(some 26), .mov (.t 1), none, []⟩,
    ⟨(some 27), .mov (.t 2), none, []⟩,
    ⟨(some 28), .call (.c (.func (.func 14) [] [])) [(.t 26), (.t 27)], none, [26, 27]⟩,
    ⟨(some 10), .mov (.t 25), none, [25]⟩,
    ⟨(some 11), .mov (.t 28), none, [28]⟩])
  (.seq (.seq (.ops [⟨(some 29), .mov (.t 10), none, []⟩,
    ⟨(some 30), .lenS (.t 29), none, [29]⟩,
    ⟨(some 31), .mov (.t 2), none, [2]⟩,
    ⟨(some 32), .bin .neq .none (.t 30) (.t 31), none, [31, 30]⟩,
    ⟨(some 33), .mov (.t 32), none, [32]⟩,
    ⟨(some 34), .mov (.t 10), (some (33, false)), []⟩,
    ⟨(some 35), .call (.c (.func (.func 15) [] [])) [(.t 34)], (some (33, false)), [34]⟩,
    ⟨(some 36), .mov (.t 0), (some (33, false)), []⟩,
    ⟨(some 37), .mov (.t 9), (some (33, false)), []⟩,
    ⟨(some 38), .bin .and .none (.t 36) (.t 37), (some (33, false)), [37, 36]⟩,
    ⟨(some 39), .bin .neq .none (.t 35) (.t 38), (some (33, false)), [38, 35]⟩,
    ⟨(some 40), .pick (.t 33) (.c (.bool true)) (.t 39), none, [39, 33]⟩,
    ⟨(some 41), .mov (.t 40), none, [40]⟩,
    ⟨(some 42), .mov (.t 10), (some (41, false)), []⟩,
    ⟨(some 43), .mov (.t 11), (some (41, false)), []⟩,
    ⟨(some 44), .bin .lss .none (.t 42) (.t 43), (some (41, false)), [43, 42]⟩,
    ⟨(some 45), .mov (.t 0), (some (41, false)), []⟩,
    ⟨(some 46), .mov (.t 9), (some (41, false)), []⟩,
    ⟨(some 47), .bin .and .none (.t 45) (.t 46), (some (41, false)), [46, 45]⟩,
    ⟨(some 48), .mov (.t 1), (some (41, false)), []⟩,
    ⟨(some 49), .mov (.t 9), (some (41, false)), []⟩,
    ⟨(some 50), .bin .and .none (.t 48) (.t 49), (some (41, false)), [49, 48]⟩,
    ⟨(some 51), .bin .lss .none (.t 47) (.t 50), (some (41, false)), [50, 47]⟩,
    ⟨(some 52), .bin .neq .bool (.t 44) (.t 51), (some (41, false)), [51, 44]⟩,
    ⟨(some 53), .pick (.t 41) (.c (.bool true)) (.t 52), none, [52, 41]⟩,
    ⟨(some 54), .mov (.t 53), none, [53]⟩,
    ⟨(some 55), .mov (.t 10), (some (54, false)), [10]⟩,
    ⟨(some 56), .mov (.t 11), (some (54, false)), [11]⟩,
    ⟨(some 57), .bin .eql .none (.t 55) (.t 56), (some (54, false)), [56, 55]⟩,
    ⟨(some 58), .mov (.t 0), (some (54, false)), [0]⟩,
    ⟨(some 59), .mov (.t 9), (some (54, false)), []⟩,
    ⟨(some 60), .bin .and .none (.t 58) (.t 59), (some (54, false)), [59, 58]⟩,
    ⟨(some 61), .mov (.t 1), (some (54, false)), [1]⟩,
    ⟨(some 62), .mov (.t 9), (some (54, false)), [9]⟩,
    ⟨(some 63), .bin .and .none (.t 61) (.t 62), (some (54, false)), [62, 61]⟩,
    ⟨(some 64), .bin .eql .none (.t 60) (.t 63), (some (54, false)), [63, 60]⟩,
    ⟨(some 65), .bin .neq .bool (.t 57) (.t 64), (some (54, false)), [64, 57]⟩,
    ⟨(some 66), .pick (.t 54) (.c (.bool true)) (.t 65), none, [65, 54]⟩])
  (.cond (.t 66)
   (.seq (.ops [⟨(some 8), .mov (.c (.bool false)), none, [66]⟩])
   (.ret))
   (.skip)))
  (.seq (.ops [⟨(some 67), .mov (.t 3), none, [66]⟩,
    ⟨(some 68), .lenS (.t 67), none, [67]⟩,
    ⟨(some 69), .bin .gtr .none (.t 68) (.c (.int .i64 8)), none, [68]⟩,
    ⟨(some 70), .mov (.t 69), none, [69]⟩,
    ⟨(some 71), .mov (.t 3), (some (70, false)), []⟩,
    ⟨(some 72), .call (.c (.func (.func 15) [] [])) [(.t 71)], (some (70, false)), [71]⟩,
    ⟨(some 73), .mov (.t 3), (some (70, false)), []⟩,
    ⟨(some 74), .lenS (.t 73), (some (70, false)), [73]⟩,
    ⟨(some 75), .call (.c (.func (.func 14) [] [])) [(.t 72), (.t 74)], (some (70, false)), [72, 74]⟩,
    ⟨(some 76), .mov (.t 3), (some (70, false)), [3]⟩,
    ⟨(some 77), .bin .eql .none (.t 75) (.t 76), (some (70, false)), [76, 75]⟩,
    ⟨(some 78), .pick (.t 70) (.c (.bool true)) (.t 77), none, [77, 70]⟩,
    ⟨(some 8), .mov (.t 78), none, [78]⟩])
  (.ret)))))))), 79, [.tmp 8]⟩
theorem f3_ok : compF Try.prog Try.f3 [⟨0, [], [], [[8]]⟩, ⟨0, [], [], [[], [12]]⟩, ⟨0, [], [], [[13]]⟩, ⟨0, [], [], [[13, 2], [14], [15]]⟩, ⟨0, [], [], [[]]⟩, ⟨0, [], [], [[], [16]]⟩, ⟨0, [], [], [[17], [18], [19], [20], [21], [22]]⟩, ⟨0, [], [], [[17], [], [23, 24], [], [], [26, 27], [25], [28]]⟩, ⟨0, [], [], [[], [29], [2], [31, 30], [32], [], [34], [], [], [37, 36], [38, 35], [39, 33], [40], [], [], [43, 42], [], [], [46, 45], [], [], [49, 48], [50, 47], [51, 44], [52, 41], [53], [10], [11], [56, 55], [0], [], [59, 58], [1], [9], [62, 61], [63, 60], [64, 57], [65, 54]]⟩, ⟨0, [], [], [[66]]⟩, ⟨0, [], [], [[66], [67], [68], [69], [], [71], [], [73], [72, 74], [3], [76, 75], [77, 70], [78]]⟩] = some f3 := by kernel_rfl

/-! 4: polyglot/polyglotlaw03.UstringJoins -/
def f4 : AFn := ⟨.seq (.ops [⟨(some 4), .mov (.c (.bool false)), none, [4]⟩])
  (.seq (.seq (.ops [⟨(some 5), .call (.c (.func (.func 16) [] [])) [], none, []⟩,
    ⟨(some 6), .not (.t 5), none, [5]⟩])
  (.cond (.t 6)
   (.seq (.ops [⟨(some 4), .mov (.c (.bool false)), none, [6]⟩])
   (.ret))
   (.skip)))
  (.seq (.seq (.ops [⟨(some 7), .mov (.t 0), none, [6]⟩,
    ⟨(some 8), .lenS (.t 7), none, [7]⟩,
    ⟨(some 9), .bin .gtr .none (.t 8) (.c (.int .i64 1000)), none, [8]⟩,
    ⟨(some 10), .mov (.t 9), none, [9]⟩,
    ⟨(some 11), .mov (.t 1), (some (10, false)), []⟩,
    ⟨(some 12), .lenS (.t 11), (some (10, false)), [11]⟩,
    ⟨(some 13), .bin .gtr .none (.t 12) (.c (.int .i64 1000)), (some (10, false)), [12]⟩,
    ⟨(some 14), .pick (.t 10) (.c (.bool true)) (.t 13), none, [13, 10]⟩])
  (.cond (.t 14)
   (.seq (.ops [⟨(some 4), .mov (.c (.bool true)), none, [14]⟩])
   (.ret))
   (.skip)))
  (.seq (.block 0 (.seq (.ops [⟨(some 16), .mov (.t 0), none, [14]⟩,
     ⟨(some 17), .call (.c (.func (.func 17) [] [])) [(.t 16)], none, [16]⟩,
     ⟨(some 18), .mov (.t 17), none, [17]⟩,
     ⟨(some 19), .mov (.t 1), (some (18, true)), []⟩,
     ⟨(some 20), .call (.c (.func (.func 17) [] [])) [(.t 19)], (some (18, true)), [19]⟩,
     ⟨(some 21), .pick (.t 18) (.t 20) (.c (.bool false)), none, [20, 18]⟩,
     ⟨(some 15), .mov (.t 21), none, [21]⟩])
   (.cond (.t 15)
    (.seq (.ops [⟨(some 22), .mov (.t 0), none, [15]⟩,
      ⟨(some 23), .mov (.t 1), none, []⟩,
      ⟨(some 24), .bin .add .none (.t 22) (.t 23), none, [23, 22]⟩,
      ⟨(some 25), .call (.c (.func (.func 17) [] [])) [(.t 24)], none, [24]⟩,
      ⟨(some 26), .mov (.t 25), none, [25]⟩,
      ⟨(some 27), .mov (.t 0), (some (26, true)), []⟩,
      ⟨(some 28), .mov (.t 1), (some (26, true)), []⟩,
      ⟨(some 29), .bin .add .none (.t 27) (.t 28), (some (26, true)), [28, 27]⟩,
      ⟨(some 30), .call (.c (.func (.func 18) [] [])) [(.t 29)], (some (26, true)), [29]⟩,
      ⟨(some 31), .mov (.t 0), (some (26, true)), [0]⟩,
      ⟨(some 32), .call (.c (.func (.func 18) [] [])) [(.t 31)], (some (26, true)), [31]⟩,
      ⟨(some 33), .mov (.t 1), (some (26, true)), [1]⟩,
      ⟨(some 34), .call (.c (.func (.func 18) [] [])) [(.t 33)], (some (26, true)), [33]⟩,
      ⟨(some 35), .bin .add .none (.t 32) (.t 34), (some (26, true)), [34, 32]⟩,
      ⟨(some 36), .bin .eql .none (.t 30) (.t 35), (some (26, true)), [35, 30]⟩,
      ⟨(some 37), .pick (.t 26) (.t 36) (.c (.bool false)), none, [36, 26]⟩,
      ⟨(some 4), .mov (.t 37), none, [37]⟩])
    (.ret))
    (.seq (.ops [⟨(some 39), .mov (.t 0), none, [15]⟩,
      ⟨(some 40), .call (.c (.func (.func 17) [] [])) [(.t 39)], none, [39]⟩,
      ⟨(some 38), .mov (.t 40), none, [40]⟩])
    (.cond (.t 38)
     (.seq (.ops [⟨(some 41), .mov (.t 0), none, [38]⟩,
       ⟨(some 42), .mov (.t 1), none, []⟩,
       ⟨(some 43), .bin .add .none (.t 41) (.t 42), none, [42, 41]⟩,
       ⟨(some 44), .call (.c (.func (.func 17) [] [])) [(.t 43)], none, [43]⟩,
       ⟨(some 45), .not (.t 44), none, [44]⟩,
       ⟨(some 46), .mov (.t 45), none, [45]⟩,
       ⟨(some 47), .mov (.t 0), (some (46, true)), []⟩,
       ⟨(some 48), .mov (.t 1), (some (46, true)), []⟩,
       ⟨(some 49), .bin .add .none (.t 47) (.t 48), (some (46, true)), [48, 47]⟩,
       ⟨(some 50), .call (.c (.func (.func 19) [] [])) [(.t 49)], (some (46, true)), [49]⟩,
       ⟨(some 51), .mov (.t 0), (some (46, true)), [0]⟩,
       ⟨(some 52), .lenS (.t 51), (some (46, true)), [51]⟩,
       ⟨(some 53), .mov (.t 1), (some (46, true)), [1]⟩,
       ⟨(some 54), .call (.c (.func (.func 19) [] [])) [(.t 53)], (some (46, true)), [53]⟩,
       ⟨(some 55), .bin .add .none (.t 52) (.t 54), (some (46, true)), [54, 52]⟩,
       ⟨(some 56), .bin .eql .none (.t 50) (.t 55), (some (46, true)), [55, 50]⟩,
       ⟨(some 57), .pick (.t 46) (.t 56) (.c (.bool false)), none, [56, 46]⟩,
       ⟨(some 4), .mov (.t 57), none, [57]⟩])
     (.ret))
     (.skip))))))
  (.seq (.ops [⟨(some 58), .mov (.t 1), none, [38]⟩,
    ⟨(some 59), .mov (.t 0), none, [0]⟩,
    ⟨(some 60), .bin .add .none (.t 58) (.t 59), none, [59, 58]⟩,
    ⟨(some 61), .call (.c (.func (.func 17) [] [])) [(.t 60)], none, [60]⟩,
    ⟨(some 62), .not (.t 61), none, [61]⟩,
    ⟨(some 63), .mov (.t 62), none, [62]⟩,
    ⟨(some 64), .mov (.t 1), (some (63, false)), [1]⟩,
    ⟨(some 65), .call (.c (.func (.func 17) [] [])) [(.t 64)], (some (63, false)), [64]⟩,
    ⟨(some 66), .not (.t 65), (some (63, false)), [65]⟩,
    ⟨(some 67), .pick (.t 63) (.c (.bool true)) (.t 66), none, [66, 63]⟩,
    ⟨(some 4), .mov (.t 67), none, [67]⟩])
  (.ret))))), 68, [.tmp 4]⟩
theorem f4_ok : compF Try.prog Try.f4 [⟨0, [], [], [[4]]⟩, ⟨0, [], [], [[], [5]]⟩, ⟨0, [], [], [[6]]⟩, ⟨0, [], [], [[6], [7], [8], [9], [], [11], [12], [13, 10]]⟩, ⟨0, [], [], [[14]]⟩, ⟨0, [], [], [[14], [16], [17], [], [19], [20, 18], [21]]⟩, ⟨0, [], [], [[15], [], [23, 22], [24], [25], [], [], [28, 27], [29], [0], [31], [1], [33], [34, 32], [35, 30], [36, 26], [37]]⟩, ⟨0, [], [], [[15], [39], [40]]⟩, ⟨0, [], [], [[38], [], [42, 41], [43], [44], [45], [], [], [48, 47], [49], [0], [51], [1], [53], [54, 52], [55, 50], [56, 46], [57]]⟩, ⟨0, [], [], [[38], [0], [59, 58], [60], [61], [62], [1], [64], [65], [66, 63], [67]]⟩] = some f4 := by kernel_rfl

/-! 5: polyglot/polyglotlaw03.UstringHalves -/
def f5 : AFn := ⟨.seq (.ops [⟨(some 4), .mov (.c (.bool false)), none, [4]⟩])
  (.seq (.seq (.ops [⟨(some 12), .call (.c (.func (.func 16) [] [])) [], none, []⟩,
    ⟨(some 13), .not (.t 12), none, [12]⟩])
  (.cond (.t 13)
   (.seq (.ops [⟨(some 4), .mov (.c (.bool false)), none, [13]⟩])
   (.ret))
   (.skip)))
  (.seq (.seq (.ops [⟨(some 14), .mov (.t 0), none, [13]⟩,
    ⟨(some 15), .lenS (.t 14), none, [14]⟩,
    ⟨(some 16), .bin .gtr .none (.t 15) (.c (.int .i64 1000)), none, [15]⟩])
  (.cond (.t 16)
   (.seq (.ops [⟨(some 4), .mov (.c (.bool true)), none, [16]⟩])
   (.ret))
   (.skip)))
  (.seq (.ops [⟨(some 18), .mov (.t 0), none, [16]⟩,
    ⟨(some 19), .call (.c (.func (.func 20) [] [])) [(.t 18)], none, [18]⟩,
    ⟨(some 17), .mov (.t 19), none, [19]⟩,
    ⟨(some 20), .extract (.t 17) 0, none, []⟩,
    ⟨(some 21), .extract (.t 17) 1, none, [17]⟩,
    ⟨(some 5), .mov (.t 20), none, [20]⟩,
    ⟨(some 6), .mov (.t 21), none, [21]⟩])
  (.seq (.seq (.ops [⟨(some 22), .mov (.t 6), none, [6]⟩,
    ⟨(some 23), .not (.t 22), none, [22]⟩])
  (.cond (.t 23)
   (.seq (.ops [⟨(some 4), .mov (.c (.bool false)), none, [23]⟩])
   (.ret))
   (.skip)))
  (.seq (.ops [⟨(some 24), .mov (.t 0), none, [23]⟩,
    ⟨(some 25), .call (.c (.func (.func 19) [] [])) [(.t 24)], none, [24]⟩,
    ⟨(some 7), .mov (.t 25), none, [25]⟩])
  (.seq (.seq (.ops [⟨(some 26), .mov (.t 0), none, []⟩,
    ⟨(some 27), .call (.c (.func (.func 17) [] [])) [(.t 26)], none, [26]⟩,
    ⟨(some 28), .mov (.t 7), none, []⟩,
    ⟨(some 29), .bin .lss .none (.t 28) (.c (.int .i64 0)), none, [28]⟩,
    ⟨(some 30), .bin .neq .bool (.t 27) (.t 29), none, [29, 27]⟩,
    ⟨(some 31), .mov (.t 30), none, [30]⟩,
    ⟨(some 32), .mov (.t 7), (some (31, false)), []⟩,
    ⟨(some 33), .mov (.t 0), (some (31, false)), []⟩,
    ⟨(some 34), .lenS (.t 33), (some (31, false)), [33]⟩,
    ⟨(some 35), .bin .geq .none (.t 32) (.t 34), (some (31, false)), [34, 32]⟩,
    ⟨(some 36), .pick (.t 31) (.c (.bool true)) (.t 35), none, [35, 31]⟩])
  (.cond (.t 36)
   (.seq (.ops [⟨(some 4), .mov (.c (.bool false)), none, [36]⟩])
   (.ret))
   (.skip)))
  (.seq (.ops [⟨(some 37), .mov (.t 0), none, [36]⟩,
    ⟨(some 38), .lenS (.t 37), none, [37]⟩,
    ⟨(some 8), .mov (.t 38), none, [38]⟩])
  (.seq (.seq (.ops [⟨(some 39), .mov (.t 7), none, []⟩,
    ⟨(some 40), .bin .geq .none (.t 39) (.c (.int .i64 0)), none, [39]⟩])
  (.cond (.t 40)
   (.ops [⟨(some 41), .mov (.t 7), none, [40, 7]⟩,
     ⟨(some 8), .mov (.t 41), none, [41]⟩])
   (.skip)))
  (.seq (.seq (.ops [⟨(some 42), .mov (.t 5), none, [40]⟩,
    ⟨(some 43), .len (.t 42), none, [42]⟩,
    ⟨(some 44), .bin .eql .none (.t 43) (.c (.int .i64 0)), none, [43]⟩])
  (.cond (.t 44)
   (.seq (.ops [⟨(some 45), .mov (.t 8), none, [44, 8]⟩,
     ⟨(some 46), .bin .eql .none (.t 45) (.c (.int .i64 0)), none, [45]⟩,
     ⟨(some 4), .mov (.t 46), none, [46]⟩])
   (.ret))
   (.skip)))
  (.seq (.ops [⟨(some 47), .mov (.t 1), none, [44, 1]⟩,
    ⟨(some 48), .mov (.t 5), none, []⟩,
    ⟨(some 49), .len (.t 48), none, [48]⟩,
    ⟨(some 50), .call (.c (.func (.func 13) [] [])) [(.t 47), (.t 49)], none, [47, 49]⟩,
    ⟨(some 9), .mov (.t 50), none, [50]⟩])
  (.seq (.quiet [⟨(some 51), .mov (.t 0), none, []⟩,
    ⟨(some 52), .mov (.t 5), none, []⟩,
    ⟨(some 53), .mov (.t 9), none, []⟩,
    ⟨(some 54), .indexAddr 2 (.t 52) (.t 53), none, [53, 52]⟩,
    ⟨(some 55), .fieldAddr 0 (.t 54), none, [54]⟩,
    ⟨(some 56), .load1 (.t 55), none, [55]⟩,
    ⟨(some 57), .substr (.t 51) none (some (.t 56)), none, [56, 51]⟩,
    ⟨(some 58), .mov (.t 0), none, []⟩,
    ⟨(some 59), .mov (.t 5), none, []⟩,
    ⟨(some 60), .mov (.t 9), none, []⟩,
    ⟨(some 61), .indexAddr 2 (.t 59) (.t 60), none, [60, 59]⟩,
    ⟨(some 62), .fieldAddr 0 (.t 61), none, [61]⟩,
    ⟨(some 63), .load1 (.t 62), none, [62]⟩,
    ⟨(some 64), .mov (.t 8), none, []⟩,
    ⟨(some 65), .substr (.t 58) (some (.t 63)) (some (.t 64)), none, [64, 63, 58]⟩,
    ⟨(some 10), .mov (.t 57), none, [57]⟩,
    ⟨(some 11), .mov (.t 65), none, [65]⟩])
  (.seq (.quiet [⟨(some 66), .mov (.t 10), none, []⟩,
    ⟨(some 67), .call (.c (.func (.func 17) [] [])) [(.t 66)], none, [66]⟩,
    ⟨(some 68), .mov (.t 67), none, [67]⟩,
    ⟨(some 69), .mov (.t 11), (some (68, true)), []⟩,
    ⟨(some 70), .call (.c (.func (.func 17) [] [])) [(.t 69)], (some (68, true)), [69]⟩,
    ⟨(some 71), .pick (.t 68) (.t 70) (.c (.bool false)), none, [70, 68]⟩,
    ⟨(some 72), .mov (.t 71), none, [71]⟩,
    ⟨(some 73), .mov (.t 10), (some (72, true)), [10]⟩,
    ⟨(some 74), .call (.c (.func (.func 18) [] [])) [(.t 73)], (some (72, true)), [73]⟩,
    ⟨(some 75), .mov (.t 9), (some (72, true)), []⟩,
    ⟨(some 76), .bin .eql .none (.t 74) (.t 75), (some (72, true)), [75, 74]⟩,
    ⟨(some 77), .pick (.t 72) (.t 76) (.c (.bool false)), none, [76, 72]⟩,
    ⟨(some 78), .mov (.t 77), none, [77]⟩,
    ⟨(some 79), .mov (.t 11), (some (78, true)), [11]⟩,
    ⟨(some 80), .call (.c (.func (.func 18) [] [])) [(.t 79)], (some (78, true)), [79]⟩,
    ⟨(some 81), .mov (.t 5), (some (78, true)), []⟩,
    ⟨(some 82), .len (.t 81), (some (78, true)), [81]⟩,
    ⟨(some 83), .mov (.t 9), (some (78, true)), []⟩,
    ⟨(some 84), .bin .sub .none (.t 82) (.t 83), (some (78, true)), [83, 82]⟩,
    ⟨(some 85), .bin .eql .none (.t 80) (.t 84), (some (78, true)), [84, 80]⟩,
    ⟨(some 86), .pick (.t 78) (.t 85) (.c (.bool false)), none, [85, 78]⟩,
    ⟨(some 87), .mov (.t 86), none, [86]⟩,
    ⟨(some 88), .mov (.t 0), (some (87, true)), []⟩,
    ⟨(some 89), .call (.c (.func (.func 17) [] [])) [(.t 88)], (some (87, true)), [88]⟩,
    ⟨(some 90), .mov (.t 0), (some (87, true)), []⟩,
    ⟨(some 91), .mov (.t 5), (some (87, true)), []⟩,
    ⟨(some 92), .mov (.t 9), (some (87, true)), []⟩,
    ⟨(some 93), .indexAddr 2 (.t 91) (.t 92), (some (87, true)), [92, 91]⟩,
    ⟨(some 94), .fieldAddr 0 (.t 93), (some (87, true)), [93]⟩,
    ⟨(some 95), .load1 (.t 94), (some (87, true)), [94]⟩,
    ⟨(some 96), .substr (.t 90) (some (.t 95)) none, (some (87, true)), [95, 90]⟩,
    ⟨(some 97), .call (.c (.func (.func 17) [] [])) [(.t 96)], (some (87, true)), [96]⟩,
    ⟨(some 98), .bin .eql .bool (.t 89) (.t 97), (some (87, true)), [97, 89]⟩,
    ⟨(some 99), .pick (.t 87) (.t 98) (.c (.bool false)), none, [98, 87]⟩,
    ⟨(some 100), .mov (.t 99), none, [99]⟩,
    ⟨(some 101), .mov (.t 5), (some (100, true)), []⟩,
    ⟨(some 102), .mov (.t 9), (some (100, true)), []⟩,
    ⟨(some 103), .indexAddr 2 (.t 101) (.t 102), (some (100, true)), [102, 101]⟩,
    ⟨(some 104), .fieldAddr 1 (.t 103), (some (100, true)), [103]⟩,
    ⟨(some 105), .load1 (.t 104), (some (100, true)), [104]⟩,
    ⟨(some 106), .i2s (.t 105), (some (100, true)), [105]⟩,
    ⟨(some 107), .mov (.t 0), (some (100, true)), [0]⟩,
    ⟨(some 108), .mov (.t 5), (some (100, true)), []⟩,
    ⟨(some 109), .mov (.t 9), (some (100, true)), []⟩,
    ⟨(some 110), .indexAddr 2 (.t 108) (.t 109), (some (100, true)), [109, 108]⟩,
    ⟨(some 111), .fieldAddr 0 (.t 110), (some (100, true)), [110]⟩,
    ⟨(some 112), .load1 (.t 111), (some (100, true)), [111]⟩,
    ⟨(some 113), .mov (.t 5), (some (100, true)), [5]⟩,
    ⟨(some 114), .mov (.t 9), (some (100, true)), [9]⟩,
    ⟨(some 115), .mov (.t 8), (some (100, true)), [8]⟩,
    ⟨(some 116), .call (.c (.func (.func 21) [] [])) [(.t 113), (.t 114), (.t 115)], (some (100, true)), [113, 114, 115]⟩,
    ⟨(some 117), .substr (.t 107) (some (.t 112)) (some (.t 116)), (some (100, true)), [116, 112, 107]⟩,
    ⟨(some 118), .bin .eql .none (.t 106) (.t 117), (some (100, true)), [117, 106]⟩,
    ⟨(some 119), .pick (.t 100) (.t 118) (.c (.bool false)), none, [118, 100]⟩,
    ⟨(some 4), .mov (.t 119), none, [119]⟩])
  (.ret))))))))))))), 120, [.tmp 4]⟩
theorem f5_ok : compF Try.prog Try.f5 [⟨0, [], [], [[4]]⟩, ⟨0, [], [], [[], [12]]⟩, ⟨0, [], [], [[13]]⟩, ⟨0, [], [], [[13], [14], [15]]⟩, ⟨0, [], [], [[16]]⟩, ⟨0, [], [], [[16], [18], [19], [], [17], [20], [21]]⟩, ⟨0, [], [], [[6], [22]]⟩, ⟨0, [], [], [[23]]⟩, ⟨0, [], [], [[23], [24], [25]]⟩, ⟨0, [], [], [[], [26], [], [28], [29, 27], [30], [], [], [33], [34, 32], [35, 31]]⟩, ⟨0, [], [], [[36]]⟩, ⟨0, [], [], [[36], [37], [38]]⟩, ⟨0, [], [], [[], [39]]⟩, ⟨0, [], [], [[40, 7], [41]]⟩, ⟨0, [], [], [[40], [42], [43]]⟩, ⟨0, [], [], [[44, 8], [45], [46]]⟩, ⟨0, [], [], [[44, 1], [], [48], [47, 49], [50]]⟩, ⟨0, [], [], [[], [], [], [53, 52], [54], [55], [56, 51], [], [], [], [60, 59], [61], [62], [], [64, 63, 58], [57], [65]]⟩, ⟨0, [], [], [[], [66], [67], [], [69], [70, 68], [71], [10], [73], [], [75, 74], [76, 72], [77], [11], [79], [], [81], [], [83, 82], [84, 80], [85, 78], [86], [], [88], [], [], [], [92, 91], [93], [94], [95, 90], [96], [97, 89], [98, 87], [99], [], [], [102, 101], [103], [104], [105], [0], [], [], [109, 108], [110], [111], [5], [9], [8], [113, 114, 115], [116, 112, 107], [117, 106], [118, 100], [119]]⟩] = some f5 := by kernel_rfl

/-! 6: polyglot/polyglotlaw01.OctetParts -/
def f6_M0 : List Bool := [true, true, false, false, false, true, true, true, false, false, false, false, false, false, false, false, false, false, false, false, false, false, false, false, false, false, false, false, false, false, false, false, false, false, false, false, false, false, false, false, false, false, false, false, false, false, false, false, false, false, false, false, false, false, false, false, false, false, false, false, false, false, false, false, false, false, false, false, false, false, false, false, false, false, false, false, false, false, false, false, false, false, false, false, false, false, false, false, false, false, false, false, false, false, false, false, false, false, false, false, false, false, false, false, false, false, false, false, false, false, false, false, false, false, false, false, false, false, false, false, false, false, false, false, false, false, false, false, false, false, false, false, false, false]
def f6_O0 : List Bool := [true, false, false, false, true, true, true, false, false, false, false, false, false, false, false, false, false, false, false, false, false, false, false, false, false, false, false, false, false, false, false, false, false, false, false, false, false, false, false, false, false, false, false, false, false, false, false, false, false, false, false, false, false, false, false, false, false, false, false, false, false, false, false, false, false, false, false, false, false, false, false, false, false, false, false, false, false, false, false, false, false, false, false, false, false, false, false, false, false, false, false, false, false, false, false, false, false, false, false, false, false, false, false, false, false, false, false, false, false, false, false, false, false, false, false, false, false, false, false, false, false, false, false, false, false, false, false, false, false, false, false, false, false, false]
def f6_L0 : AC := .seq (.seq (.ops [⟨(some 26), .mov (.t 7), none, []⟩,
    ⟨(some 27), .mov (.t 1), none, []⟩,
    ⟨(some 28), .len (.t 27), none, [27]⟩,
    ⟨(some 29), .bin .lss .none (.t 26) (.t 28), none, [28, 26]⟩])
  (.cond (.t 29)
   (.skip)
   (.exit 0)))
  (.seq (.block 1 (.seq (.ops [⟨(some 32), .mov (.t 5), none, [29]⟩,
     ⟨(some 33), .call (.c (.func (.func 23) [] [])) [(.t 32)], none, [32]⟩,
     ⟨(some 34), .mov (.t 5), none, []⟩,
     ⟨(some 35), .call (.c (.func (.func 24) [] [])) [(.t 34)], none, [34]⟩,
     ⟨(some 8), .mov (.t 33), none, [33]⟩,
     ⟨(some 9), .mov (.t 35), none, [35]⟩])
   (.seq (.ops [⟨(some 36), .mov (.t 5), none, []⟩,
     ⟨(some 37), .mov (.t 1), none, []⟩,
     ⟨(some 38), .mov (.t 7), none, []⟩,
     ⟨(some 39), .indexAddr 1 (.t 37) (.t 38), none, [38, 37]⟩,
     ⟨(some 40), .load1 (.t 39), none, [39]⟩,
     ⟨(some 41), .call (.c (.func (.func 25) [] [])) [(.t 36), (.t 40)], none, [36, 40]⟩,
     ⟨(some 42), .mov (.t 5), none, []⟩,
     ⟨(some 43), .call (.c (.func (.func 26) [] [])) [(.t 42)], none, [42]⟩,
     ⟨(some 10), .mov (.t 41), none, [41]⟩,
     ⟨(some 11), .mov (.t 43), none, [43]⟩])
   (.seq (.ops [⟨(some 44), .mov (.t 5), none, []⟩,
     ⟨(some 45), .mov (.t 1), none, []⟩,
     ⟨(some 46), .mov (.t 7), none, []⟩,
     ⟨(some 47), .indexAddr 1 (.t 45) (.t 46), none, [46, 45]⟩,
     ⟨(some 48), .load1 (.t 47), none, [47]⟩,
     ⟨(some 49), .call (.c (.func (.func 27) [] [])) [(.t 44), (.t 48)], none, [44, 48]⟩,
     ⟨(some 12), .mov (.t 49), none, [49]⟩])
   (.seq (.ops [⟨(some 50), .mov (.t 6), none, [6]⟩,
     ⟨(some 51), .mov (.t 12), none, []⟩,
     ⟨(some 52), .bin .add .none (.t 50) (.t 51), none, [51, 50]⟩,
     ⟨(some 6), .mov (.t 52), none, [52]⟩])
   (.seq (.ops [⟨(some 53), .mov (.t 8), none, []⟩,
     ⟨(some 54), .bin .eql .none (.t 53) (.c (.int .i64 0)), none, [53]⟩,
     ⟨(some 55), .mov (.t 54), none, [54]⟩,
     ⟨(some 56), .mov (.t 1), (some (55, true)), []⟩,
     ⟨(some 57), .mov (.t 7), (some (55, true)), []⟩,
     ⟨(some 58), .indexAddr 1 (.t 56) (.t 57), (some (55, true)), [57, 56]⟩,
     ⟨(some 59), .load1 (.t 58), (some (55, true)), [58]⟩,
     ⟨(some 60), .bin .geq .none (.t 59) (.c (.int .i64 0)), (some (55, true)), [59]⟩,
     ⟨(some 61), .pick (.t 55) (.t 60) (.c (.bool false)), none, [60, 55]⟩,
     ⟨(some 62), .mov (.t 61), none, [61]⟩,
     ⟨(some 63), .mov (.t 1), (some (62, true)), []⟩,
     ⟨(some 64), .mov (.t 7), (some (62, true)), []⟩,
     ⟨(some 65), .indexAddr 1 (.t 63) (.t 64), (some (62, true)), [64, 63]⟩,
     ⟨(some 66), .load1 (.t 65), (some (62, true)), [65]⟩,
     ⟨(some 67), .mov (.t 9), (some (62, true)), []⟩,
     ⟨(some 68), .bin .leq .none (.t 66) (.t 67), (some (62, true)), [67, 66]⟩,
     ⟨(some 69), .pick (.t 62) (.t 68) (.c (.bool false)), none, [68, 62]⟩,
     ⟨(some 13), .mov (.t 69), none, [69]⟩])
   (.seq (.seq (.ops [⟨(some 70), .mov (.t 12), none, []⟩,
     ⟨(some 71), .mov (.t 10), none, [10]⟩,
     ⟨(some 72), .bin .neq .none (.t 70) (.t 71), none, [71, 70]⟩,
     ⟨(some 73), .mov (.t 72), none, [72]⟩,
     ⟨(some 74), .mov (.t 13), (some (73, false)), []⟩,
     ⟨(some 75), .mov (.t 74), (some (73, false)), [74]⟩,
     ⟨(some 76), .mov (.t 12), (some (75, true)), []⟩,
     ⟨(some 77), .mov (.t 11), (some (75, true)), [11]⟩,
     ⟨(some 78), .mov (.t 1), (some (75, true)), []⟩,
     ⟨(some 79), .mov (.t 7), (some (75, true)), []⟩,
     ⟨(some 80), .indexAddr 1 (.t 78) (.t 79), (some (75, true)), [79, 78]⟩,
     ⟨(some 81), .load1 (.t 80), (some (75, true)), [80]⟩,
     ⟨(some 82), .substr (.t 77) none (some (.t 81)), (some (75, true)), [81, 77]⟩,
     ⟨(some 83), .bin .neq .none (.t 76) (.t 82), (some (75, true)), [82, 76]⟩,
     ⟨(some 84), .pick (.t 75) (.t 83) (.c (.bool false)), (some (73, false)), [83, 75]⟩,
     ⟨(some 85), .pick (.t 73) (.c (.bool true)) (.t 84), none, [84, 73]⟩,
     ⟨(some 86), .mov (.t 85), none, [85]⟩,
     ⟨(some 87), .mov (.t 13), (some (86, false)), []⟩,
     ⟨(some 88), .not (.t 87), (some (86, false)), [87]⟩,
     ⟨(some 89), .mov (.t 88), (some (86, false)), [88]⟩,
     ⟨(some 90), .mov (.t 12), (some (89, true)), []⟩,
     ⟨(some 91), .bin .neq .none (.t 90) (.c (.str [])), (some (89, true)), [90]⟩,
     ⟨(some 92), .pick (.t 89) (.t 91) (.c (.bool false)), (some (86, false)), [91, 89]⟩,
     ⟨(some 93), .pick (.t 86) (.c (.bool true)) (.t 92), none, [92, 86]⟩,
     ⟨(some 94), .mov (.t 93), none, [93]⟩,
     ⟨(some 95), .mov (.t 5), (some (94, false)), []⟩,
     ⟨(some 96), .call (.c (.func (.func 23) [] [])) [(.t 95)], (some (94, false)), [95]⟩,
     ⟨(some 97), .bin .eql .none (.t 96) (.c (.int .i64 0)), (some (94, false)), [96]⟩,
     ⟨(some 98), .mov (.t 13), (some (94, false)), []⟩,
     ⟨(some 99), .bin .neq .bool (.t 97) (.t 98), (some (94, false)), [98, 97]⟩,
     ⟨(some 100), .pick (.t 94) (.c (.bool true)) (.t 99), none, [99, 94]⟩,
     ⟨(some 101), .mov (.t 100), none, [100]⟩,
     ⟨(some 102), .mov (.t 5), (some (101, false)), []⟩,
     ⟨(some 103), .call (.c (.func (.func 24) [] [])) [(.t 102)], (some (101, false)), [102]⟩,
     ⟨(some 104), .mov (.t 9), (some (101, false)), [9]⟩,
     ⟨(some 105), .mov (.t 12), (some (101, false)), [12]⟩,
     ⟨(some 106), .lenS (.t 105), (some (101, false)), [105]⟩,
     ⟨(some 107), .bin .sub .none (.t 104) (.t 106), (some (101, false)), [106, 104]⟩,
     ⟨(some 108), .bin .neq .none (.t 103) (.t 107), (some (101, false)), [107, 103]⟩,
     ⟨(some 109), .pick (.t 101) (.c (.bool true)) (.t 108), none, [108, 101]⟩])
   (.cond (.t 109)
    (.seq (.ops [⟨(some 4), .mov (.c (.bool false)), none, [109]⟩])
    (.ret))
    (.skip)))
   (.seq (.ops [⟨(some 110), .mov (.t 13), none, [109, 13]⟩,
     ⟨(some 111), .not (.t 110), none, [110]⟩,
     ⟨(some 112), .mov (.t 111), none, [111]⟩,
     ⟨(some 113), .mov (.t 8), (some (112, true)), [8]⟩,
     ⟨(some 114), .bin .eql .none (.t 113) (.c (.int .i64 0)), (some (112, true)), [113]⟩,
     ⟨(some 115), .pick (.t 112) (.t 114) (.c (.bool false)), none, [114, 112]⟩,
     ⟨(some 116), .mov (.t 115), none, [115]⟩,
     ⟨(some 117), .mov (.t 5), (some (116, true)), []⟩,
     ⟨(some 118), .call (.c (.func (.func 23) [] [])) [(.t 117)], (some (116, true)), [117]⟩,
     ⟨(some 119), .bin .neq .none (.t 118) (.c (.int .i64 3)), (some (116, true)), [118]⟩,
     ⟨(some 120), .pick (.t 116) (.t 119) (.c (.bool false)), none, [119, 116]⟩])
   (.cond (.t 120)
    (.seq (.ops [⟨(some 4), .mov (.c (.bool false)), none, [120]⟩])
    (.ret))
    (.skip))))))))))
  (.ops [⟨(some 30), .mov (.t 7), none, [120, 7]⟩,
    ⟨(some 31), .bin .add .none (.t 30) (.c (.int .i64 1)), none, [30]⟩,
    ⟨(some 7), .mov (.t 31), none, [31]⟩]))
/-- live: [0, 1, 5, 6, 7] -/
def f6_S0 (x0 x1 x5 x6 x7 : KV) : List KV := [x0, x1, .junk, .junk, .junk, x5, x6, x7, .junk, .junk, .junk, .junk, .junk, .junk, .junk, .junk, .junk, .junk, .junk, .junk, .junk, .junk, .junk, .junk, .junk, .junk, .junk, .junk, .junk, .junk, .junk, .junk, .junk, .junk, .junk, .junk, .junk, .junk, .junk, .junk, .junk, .junk, .junk, .junk, .junk, .junk, .junk, .junk, .junk, .junk, .junk, .junk, .junk, .junk, .junk, .junk, .junk, .junk, .junk, .junk, .junk, .junk, .junk, .junk, .junk, .junk, .junk, .junk, .junk, .junk, .junk, .junk, .junk, .junk, .junk, .junk, .junk, .junk, .junk, .junk, .junk, .junk, .junk, .junk, .junk, .junk, .junk, .junk, .junk, .junk, .junk, .junk, .junk, .junk, .junk, .junk, .junk, .junk, .junk, .junk, .junk, .junk, .junk, .junk, .junk, .junk, .junk, .junk, .junk, .junk, .junk, .junk, .junk, .junk, .junk, .junk, .junk, .junk, .junk, .junk, .junk, .junk, .junk, .junk, .junk, .junk, .junk, .junk, .junk, .junk, .junk, .junk, .junk, .junk]
/-- live: [0, 4, 5, 6] -/
def f6_E0 (x0 x4 x5 x6 : KV) : List KV := [x0, .junk, .junk, .junk, x4, x5, x6, .junk, .junk, .junk, .junk, .junk, .junk, .junk, .junk, .junk, .junk, .junk, .junk, .junk, .junk, .junk, .junk, .junk, .junk, .junk, .junk, .junk, .junk, .junk, .junk, .junk, .junk, .junk, .junk, .junk, .junk, .junk, .junk, .junk, .junk, .junk, .junk, .junk, .junk, .junk, .junk, .junk, .junk, .junk, .junk, .junk, .junk, .junk, .junk, .junk, .junk, .junk, .junk, .junk, .junk, .junk, .junk, .junk, .junk, .junk, .junk, .junk, .junk, .junk, .junk, .junk, .junk, .junk, .junk, .junk, .junk, .junk, .junk, .junk, .junk, .junk, .junk, .junk, .junk, .junk, .junk, .junk, .junk, .junk, .junk, .junk, .junk, .junk, .junk, .junk, .junk, .junk, .junk, .junk, .junk, .junk, .junk, .junk, .junk, .junk, .junk, .junk, .junk, .junk, .junk, .junk, .junk, .junk, .junk, .junk, .junk, .junk, .junk, .junk, .junk, .junk, .junk, .junk, .junk, .junk, .junk, .junk, .junk, .junk, .junk, .junk, .junk, .junk]
def f6_D0 {α : Type} (fr : List KV) (no : α) (yes : KV → KV → KV → KV → KV → α) : α :=
  match pickM f6_M0 fr with
  | some [x0, x1, x5, x6, x7] => yes x0 x1 x5 x6 x7
  | _ => no
theorem f6_D0_inv {β : Type} {fr : List KV} {yes : KV → KV → KV → KV → KV → Option β} {r : β} (h : f6_D0 fr none yes = some r) : ∃ x0 x1 x5 x6 x7, maskK f6_M0 fr = f6_S0 x0 x1 x5 x6 x7 ∧ yes x0 x1 x5 x6 x7 = some r := by
  unfold f6_D0 at h
  split at h
  · rename_i hp
    exact ⟨_, _, _, _, _, pickM_mask _ _ _ hp, h⟩
  · cases h
def f6 : AFn := ⟨.seq (.ops [⟨(some 4), .mov (.c (.bool false)), none, [4]⟩])
  (.seq (.seq (.ops [⟨(some 14), .call (.c (.func (.func 12) [] [])) [], none, []⟩,
    ⟨(some 15), .not (.t 14), none, [14]⟩])
  (.cond (.t 15)
   (.seq (.ops [⟨(some 4), .mov (.c (.bool false)), none, [15]⟩])
   (.ret))
   (.skip)))
  (.seq (.seq (.ops [⟨(some 16), .mov (.t 0), none, [15]⟩,
    ⟨(some 17), .lenS (.t 16), none, [16]⟩,
    ⟨(some 18), .bin .gtr .none (.t 17) (.c (.int .i64 200)), none, [17]⟩,
    ⟨(some 19), .mov (.t 18), none, [18]⟩,
    ⟨(some 20), .mov (.t 1), (some (19, false)), []⟩,
    ⟨(some 21), .len (.t 20), (some (19, false)), [20]⟩,
    ⟨(some 22), .bin .gtr .none (.t 21) (.c (.int .i64 60)), (some (19, false)), [21]⟩,
    ⟨(some 23), .pick (.t 19) (.c (.bool true)) (.t 22), none, [22, 19]⟩])
  (.cond (.t 23)
   (.seq (.ops [⟨(some 4), .mov (.c (.bool true)), none, [23]⟩])
   (.ret))
   (.skip)))
  (.seq (.ops [⟨(some 24), .mov (.t 0), none, [23]⟩,
    ⟨(some 25), .call (.c (.func (.func 22) [] [])) [(.t 24)], none, [24]⟩,
    ⟨(some 5), .mov (.t 25), none, [25]⟩])
  (.seq (.ops [⟨(some 6), .mov (.c (.str [])), none, []⟩])
  (.seq (.seq (.ops [⟨(some 7), .mov (.c (.int .i64 0)), none, []⟩])
  (.block 0 (.loop 0 f6_M0 f6_O0 f6_L0)))
  (.seq (.ops [⟨(some 121), .mov (.t 6), none, [29]⟩,
    ⟨(some 122), .mov (.t 5), none, []⟩,
    ⟨(some 123), .call (.c (.func (.func 26) [] [])) [(.t 122)], none, [122]⟩,
    ⟨(some 124), .bin .add .none (.t 121) (.t 123), none, [123, 121]⟩,
    ⟨(some 125), .mov (.t 0), none, [0]⟩,
    ⟨(some 126), .bin .eql .none (.t 124) (.t 125), none, [125, 124]⟩,
    ⟨(some 127), .mov (.t 126), none, [126]⟩,
    ⟨(some 128), .mov (.t 5), (some (127, true)), [5]⟩,
    ⟨(some 129), .call (.c (.func (.func 28) [] [])) [(.t 128)], (some (127, true)), [128]⟩,
    ⟨(some 130), .mov (.t 6), (some (127, true)), [6]⟩,
    ⟨(some 131), .lenS (.t 130), (some (127, true)), [130]⟩,
    ⟨(some 132), .bin .eql .none (.t 129) (.t 131), (some (127, true)), [131, 129]⟩,
    ⟨(some 133), .pick (.t 127) (.t 132) (.c (.bool false)), none, [132, 127]⟩,
    ⟨(some 4), .mov (.t 133), none, [133]⟩])
  (.ret))))))), 134, [.tmp 4]⟩
theorem f6_ok : compF Try.prog Try.f6 [⟨0, [], [], [[4]]⟩, ⟨0, [], [], [[], [14]]⟩, ⟨0, [], [], [[15]]⟩, ⟨0, [], [], [[15], [16], [17], [18], [], [20], [21], [22, 19]]⟩, ⟨0, [], [], [[23]]⟩, ⟨0, [], [], [[23], [24], [25]]⟩, ⟨0, [], [], [[]]⟩, ⟨0, [], [], [[]]⟩, ⟨0, [true, true, false, false, false, true, true, true, false, false, false, false, false, false, false, false, false, false, false, false, false, false, false, false, false, false, false, false, false, false, false, false, false, false, false, false, false, false, false, false, false, false, false, false, false, false, false, false, false, false, false, false, false, false, false, false, false, false, false, false, false, false, false, false, false, false, false, false, false, false, false, false, false, false, false, false, false, false, false, false, false, false, false, false, false, false, false, false, false, false, false, false, false, false, false, false, false, false, false, false, false, false, false, false, false, false, false, false, false, false, false, false, false, false, false, false, false, false, false, false, false, false, false, false, false, false, false, false, false, false, false, false, false, false], [true, false, false, false, true, true, true, false, false, false, false, false, false, false, false, false, false, false, false, false, false, false, false, false, false, false, false, false, false, false, false, false, false, false, false, false, false, false, false, false, false, false, false, false, false, false, false, false, false, false, false, false, false, false, false, false, false, false, false, false, false, false, false, false, false, false, false, false, false, false, false, false, false, false, false, false, false, false, false, false, false, false, false, false, false, false, false, false, false, false, false, false, false, false, false, false, false, false, false, false, false, false, false, false, false, false, false, false, false, false, false, false, false, false, false, false, false, false, false, false, false, false, false, false, false, false, false, false, false, false, false, false, false, false], []⟩, ⟨0, [], [], [[], [], [27], [28, 26]]⟩, ⟨0, [], [], [[29], [32], [], [34], [33], [35]]⟩, ⟨0, [], [], [[], [], [], [38, 37], [39], [36, 40], [], [42], [41], [43]]⟩, ⟨0, [], [], [[], [], [], [46, 45], [47], [44, 48], [49]]⟩, ⟨0, [], [], [[6], [], [51, 50], [52]]⟩, ⟨0, [], [], [[], [53], [54], [], [], [57, 56], [58], [59], [60, 55], [61], [], [], [64, 63], [65], [], [67, 66], [68, 62], [69]]⟩, ⟨0, [], [], [[], [10], [71, 70], [72], [], [74], [], [11], [], [], [79, 78], [80], [81, 77], [82, 76], [83, 75], [84, 73], [85], [], [87], [88], [], [90], [91, 89], [92, 86], [93], [], [95], [96], [], [98, 97], [99, 94], [100], [], [102], [9], [12], [105], [106, 104], [107, 103], [108, 101]]⟩, ⟨0, [], [], [[109]]⟩, ⟨0, [], [], [[109, 13], [110], [111], [8], [113], [114, 112], [115], [], [117], [118], [119, 116]]⟩, ⟨0, [], [], [[120]]⟩, ⟨0, [], [], [[120, 7], [30], [31]]⟩, ⟨0, [], [], [[29], [], [122], [123, 121], [0], [125, 124], [126], [5], [128], [6], [130], [131, 129], [132, 127], [133]]⟩] = some f6 := by kernel_rfl

/-! 7: polyglot/polyglotlaw01.OctetNames -/
def f7 : AFn := ⟨.seq (.ops [⟨(some 0), .mov (.c (.bool false)), none, [0]⟩])
  (.seq (.seq (.ops [⟨(some 13), .call (.c (.func (.func 12) [] [])) [], none, []⟩,
    ⟨(some 14), .not (.t 13), none, [13]⟩])
  (.cond (.t 14)
   (.seq (.ops [⟨(some 0), .mov (.c (.bool false)), none, [14]⟩])
   (.ret))
   (.skip)))
  (.seq (.ops [⟨(some 15), .call (.c (.func (.func 22) [] [])) [(.c (.str [1, 2, 3, 4, 5]))], none, [14]⟩,
    ⟨(some 1), .mov (.t 15), none, [15]⟩])
  (.seq (.ops [⟨(some 16), .mov (.t 1), none, []⟩,
    ⟨(some 17), .call (.c (.func (.func 27) [] [])) [(.t 16), (.c (.int .i64 1))], none, [16]⟩,
    ⟨(some 18), .mov (.t 1), none, []⟩,
    ⟨(some 19), .call (.c (.func (.func 29) [] [])) [(.t 18), (.c (.int .i64 2))], none, [18]⟩,
    ⟨(some 20), .mov (.t 1), none, []⟩,
    ⟨(some 21), .call (.c (.func (.func 25) [] [])) [(.t 20), (.c (.int .i64 2))], none, [20]⟩,
    ⟨(some 2), .mov (.t 17), none, [17]⟩,
    ⟨(some 3), .mov (.t 19), none, [19]⟩,
    ⟨(some 4), .mov (.t 21), none, [21]⟩])
  (.seq (.ops [⟨(some 22), .mov (.t 1), none, []⟩,
    ⟨(some 23), .call (.c (.func (.func 25) [] [])) [(.t 22), (.c (.int .i64 9))], none, [22]⟩,
    ⟨(some 5), .mov (.t 23), none, [23]⟩])
  (.seq (.ops [⟨(some 24), .mov (.t 1), none, []⟩,
    ⟨(some 25), .call (.c (.func (.func 27) [] [])) [(.t 24), (.c (.int .i64 3))], none, [24]⟩,
    ⟨(some 6), .mov (.t 25), none, [25]⟩])
  (.seq (.ops [⟨(some 26), .mov (.t 1), none, []⟩,
    ⟨(some 27), .call (.c (.func (.func 23) [] [])) [(.t 26)], none, [26]⟩,
    ⟨(some 7), .mov (.t 27), none, [27]⟩])
  (.seq (.ops [⟨(some 28), .mov (.t 1), none, []⟩,
    ⟨(some 29), .call (.c (.func (.func 30) [] [])) [(.t 28), (.c (.int .i64 5))], none, [28, 29]⟩])
  (.seq (.ops [⟨(some 30), .mov (.t 1), none, []⟩,
    ⟨(some 31), .call (.c (.func (.func 27) [] [])) [(.t 30), (.c (.int .i64 1))], none, [30]⟩,
    ⟨(some 8), .mov (.t 31), none, [31]⟩])
  (.seq (.ops [⟨(some 32), .call (.c (.func (.func 22) [] [])) [(.c (.str [120]))], none, []⟩,
    ⟨(some 9), .mov (.t 32), none, [32]⟩])
  (.seq (.ops [⟨(some 33), .mov (.t 9), none, []⟩,
    ⟨(some 34), .call (.c (.func (.func 30) [] [])) [(.t 33), (.c (.int .i64 0))], none, [33, 34]⟩])
  (.seq (.ops [⟨(some 35), .mov (.t 9), none, []⟩,
    ⟨(some 36), .call (.c (.func (.func 23) [] [])) [(.t 35)], none, [35]⟩,
    ⟨(some 10), .mov (.t 36), none, [36]⟩])
  (.seq (.ops [⟨(some 37), .mov (.t 9), none, []⟩,
    ⟨(some 38), .call (.c (.func (.func 30) [] [])) [(.t 37), (.c (.int .i64 5))], none, [37, 38]⟩])
  (.seq (.ops [⟨(some 39), .mov (.t 9), none, []⟩,
    ⟨(some 40), .call (.c (.func (.func 27) [] [])) [(.t 39), (.c (.int .i64 (-1)))], none, [39]⟩,
    ⟨(some 11), .mov (.t 40), none, [40]⟩])
  (.seq (.ops [⟨(some 12), .mov (.c (.nilptr)), none, []⟩])
  (.seq (.ops [⟨(some 41), .mov (.t 12), none, []⟩,
    ⟨(some 42), .call (.c (.func (.func 30) [] [])) [(.t 41), (.c (.int .i64 5))], none, [41, 42]⟩])
  (.seq (.ops [⟨(some 43), .mov (.t 2), none, [2]⟩,
    ⟨(some 44), .bin .eql .none (.t 43) (.c (.str [1])), none, [43]⟩,
    ⟨(some 45), .mov (.t 44), none, [44]⟩,
    ⟨(some 46), .mov (.t 3), (some (45, true)), [3]⟩,
    ⟨(some 47), .bin .eql .none (.t 46) (.c (.int .u64 515)), (some (45, true)), [46]⟩,
    ⟨(some 48), .pick (.t 45) (.t 47) (.c (.bool false)), none, [47, 45]⟩,
    ⟨(some 49), .mov (.t 48), none, [48]⟩,
    ⟨(some 50), .mov (.t 4), (some (49, true)), [4]⟩,
    ⟨(some 51), .bin .eql .none (.t 50) (.c (.str [4, 5])), (some (49, true)), [50]⟩,
    ⟨(some 52), .pick (.t 49) (.t 51) (.c (.bool false)), none, [51, 49]⟩,
    ⟨(some 53), .mov (.t 52), none, [52]⟩,
    ⟨(some 54), .mov (.t 5), (some (53, true)), [5]⟩,
    ⟨(some 55), .bin .eql .none (.t 54) (.c (.str [])), (some (53, true)), [54]⟩,
    ⟨(some 56), .pick (.t 53) (.t 55) (.c (.bool false)), none, [55, 53]⟩,
    ⟨(some 57), .mov (.t 56), none, [56]⟩,
    ⟨(some 58), .mov (.t 6), (some (57, true)), [6]⟩,
    ⟨(some 59), .bin .eql .none (.t 58) (.c (.str [])), (some (57, true)), [58]⟩,
    ⟨(some 60), .pick (.t 57) (.t 59) (.c (.bool false)), none, [59, 57]⟩,
    ⟨(some 61), .mov (.t 60), none, [60]⟩,
    ⟨(some 62), .mov (.t 7), (some (61, true)), [7]⟩,
    ⟨(some 63), .bin .eql .none (.t 62) (.c (.int .i64 3)), (some (61, true)), [62]⟩,
    ⟨(some 64), .pick (.t 61) (.t 63) (.c (.bool false)), none, [63, 61]⟩,
    ⟨(some 65), .mov (.t 64), none, [64]⟩,
    ⟨(some 66), .mov (.t 1), (some (65, true)), []⟩,
    ⟨(some 67), .call (.c (.func (.func 23) [] [])) [(.t 66)], (some (65, true)), [66]⟩,
    ⟨(some 68), .bin .eql .none (.t 67) (.c (.int .i64 3)), (some (65, true)), [67]⟩,
    ⟨(some 69), .pick (.t 65) (.t 68) (.c (.bool false)), none, [68, 65]⟩,
    ⟨(some 70), .mov (.t 69), none, [69]⟩,
    ⟨(some 71), .mov (.t 8), (some (70, true)), [8]⟩,
    ⟨(some 72), .bin .eql .none (.t 71) (.c (.str [])), (some (70, true)), [71]⟩,
    ⟨(some 73), .pick (.t 70) (.t 72) (.c (.bool false)), none, [72, 70]⟩,
    ⟨(some 74), .mov (.t 73), none, [73]⟩,
    ⟨(some 75), .mov (.t 1), (some (74, true)), []⟩,
    ⟨(some 76), .call (.c (.func (.func 28) [] [])) [(.t 75)], (some (74, true)), [75]⟩,
    ⟨(some 77), .bin .eql .none (.t 76) (.c (.int .i64 3)), (some (74, true)), [76]⟩,
    ⟨(some 78), .pick (.t 74) (.t 77) (.c (.bool false)), none, [77, 74]⟩,
    ⟨(some 79), .mov (.t 78), none, [78]⟩,
    ⟨(some 80), .mov (.t 1), (some (79, true)), []⟩,
    ⟨(some 81), .call (.c (.func (.func 24) [] [])) [(.t 80)], (some (79, true)), [80]⟩,
    ⟨(some 82), .bin .eql .none (.t 81) (.c (.int .i64 2)), (some (79, true)), [81]⟩,
    ⟨(some 83), .pick (.t 79) (.t 82) (.c (.bool false)), none, [82, 79]⟩,
    ⟨(some 84), .mov (.t 83), none, [83]⟩,
    ⟨(some 85), .mov (.t 1), (some (84, true)), []⟩,
    ⟨(some 86), .call (.c (.func (.func 26) [] [])) [(.t 85)], (some (84, true)), [85]⟩,
    ⟨(some 87), .bin .eql .none (.t 86) (.c (.str [4, 5])), (some (84, true)), [86]⟩,
    ⟨(some 88), .pick (.t 84) (.t 87) (.c (.bool false)), none, [87, 84]⟩,
    ⟨(some 89), .mov (.t 88), none, [88]⟩,
    ⟨(some 90), .mov (.t 1), (some (89, true)), []⟩,
    ⟨(some 91), .call (.c (.func (.func 25) [] [])) [(.t 90), (.c (.int .i64 1))], (some (89, true)), [90]⟩,
    ⟨(some 92), .bin .eql .none (.t 91) (.c (.str [])), (some (89, true)), [91]⟩,
    ⟨(some 93), .pick (.t 89) (.t 92) (.c (.bool false)), none, [92, 89]⟩,
    ⟨(some 94), .mov (.t 93), none, [93]⟩,
    ⟨(some 95), .mov (.t 1), (some (94, true)), [1]⟩,
    ⟨(some 96), .call (.c (.func (.func 29) [] [])) [(.t 95), (.c (.int .i64 1))], (some (94, true)), [95]⟩,
    ⟨(some 97), .bin .eql .none (.t 96) (.c (.int .u64 0)), (some (94, true)), [96]⟩,
    ⟨(some 98), .pick (.t 94) (.t 97) (.c (.bool false)), none, [97, 94]⟩,
    ⟨(some 99), .mov (.t 98), none, [98]⟩,
    ⟨(some 100), .mov (.t 10), (some (99, true)), [10]⟩,
    ⟨(some 101), .bin .eql .none (.t 100) (.c (.int .i64 0)), (some (99, true)), [100]⟩,
    ⟨(some 102), .pick (.t 99) (.t 101) (.c (.bool false)), none, [101, 99]⟩,
    ⟨(some 103), .mov (.t 102), none, [102]⟩,
    ⟨(some 104), .mov (.t 11), (some (103, true)), [11]⟩,
    ⟨(some 105), .bin .eql .none (.t 104) (.c (.str [])), (some (103, true)), [104]⟩,
    ⟨(some 106), .pick (.t 103) (.t 105) (.c (.bool false)), none, [105, 103]⟩,
    ⟨(some 107), .mov (.t 106), none, [106]⟩,
    ⟨(some 108), .mov (.t 9), (some (107, true)), [9]⟩,
    ⟨(some 109), .call (.c (.func (.func 23) [] [])) [(.t 108)], (some (107, true)), [108]⟩,
    ⟨(some 110), .bin .eql .none (.t 109) (.c (.int .i64 5)), (some (107, true)), [109]⟩,
    ⟨(some 111), .pick (.t 107) (.t 110) (.c (.bool false)), none, [110, 107]⟩,
    ⟨(some 112), .mov (.t 111), none, [111]⟩,
    ⟨(some 113), .call (.c (.func (.func 14) [] [])) [(.c (.int .u64 1)), (.c (.int .i64 0))], (some (112, true)), []⟩,
    ⟨(some 114), .bin .eql .none (.t 113) (.c (.str [])), (some (112, true)), [113]⟩,
    ⟨(some 115), .pick (.t 112) (.t 114) (.c (.bool false)), none, [114, 112]⟩,
    ⟨(some 116), .mov (.t 115), none, [115]⟩,
    ⟨(some 117), .call (.c (.func (.func 14) [] [])) [(.c (.int .u64 1)), (.c (.int .i64 (-3)))], (some (116, true)), []⟩,
    ⟨(some 118), .bin .eql .none (.t 117) (.c (.str [])), (some (116, true)), [117]⟩,
    ⟨(some 119), .pick (.t 116) (.t 118) (.c (.bool false)), none, [118, 116]⟩,
    ⟨(some 120), .mov (.t 119), none, [119]⟩,
    ⟨(some 121), .call (.c (.func (.func 14) [] [])) [(.c (.int .u64 1)), (.c (.int .i64 99))], (some (120, true)), []⟩,
    ⟨(some 122), .lenS (.t 121), (some (120, true)), [121]⟩,
    ⟨(some 123), .bin .eql .none (.t 122) (.c (.int .i64 16)), (some (120, true)), [122]⟩,
    ⟨(some 124), .pick (.t 120) (.t 123) (.c (.bool false)), none, [123, 120]⟩,
    ⟨(some 125), .mov (.t 124), none, [124]⟩,
    ⟨(some 126), .call (.c (.func (.func 14) [] [])) [(.c (.int .u64 511)), (.c (.int .i64 1))], (some (125, true)), []⟩,
    ⟨(some 127), .bin .eql .none (.t 126) (.c (.str [255])), (some (125, true)), [126]⟩,
    ⟨(some 128), .pick (.t 125) (.t 127) (.c (.bool false)), none, [127, 125]⟩,
    ⟨(some 129), .mov (.t 128), none, [128]⟩,
    ⟨(some 130), .call (.c (.func (.func 15) [] [])) [(.c (.str []))], (some (129, true)), []⟩,
    ⟨(some 131), .bin .eql .none (.t 130) (.c (.int .u64 0)), (some (129, true)), [130]⟩,
    ⟨(some 132), .pick (.t 129) (.t 131) (.c (.bool false)), none, [131, 129]⟩,
    ⟨(some 133), .mov (.t 132), none, [132]⟩,
    ⟨(some 134), .call (.c (.func (.func 15) [] [])) [(.c (.str [9, 0, 0, 0, 0, 0, 0, 0, 1]))], (some (133, true)), []⟩,
    ⟨(some 135), .bin .eql .none (.t 134) (.c (.int .u64 1)), (some (133, true)), [134]⟩,
    ⟨(some 136), .pick (.t 133) (.t 135) (.c (.bool false)), none, [135, 133]⟩,
    ⟨(some 137), .mov (.t 136), none, [136]⟩,
    ⟨(some 138), .mov (.t 12), (some (137, true)), []⟩,
    ⟨(some 139), .call (.c (.func (.func 27) [] [])) [(.t 138), (.c (.int .i64 1))], (some (137, true)), [138]⟩,
    ⟨(some 140), .bin .eql .none (.t 139) (.c (.str [])), (some (137, true)), [139]⟩,
    ⟨(some 141), .pick (.t 137) (.t 140) (.c (.bool false)), none, [140, 137]⟩,
    ⟨(some 142), .mov (.t 141), none, [141]⟩,
    ⟨(some 143), .mov (.t 12), (some (142, true)), []⟩,
    ⟨(some 144), .call (.c (.func (.func 29) [] [])) [(.t 143), (.c (.int .i64 1))], (some (142, true)), [143]⟩,
    ⟨(some 145), .bin .eql .none (.t 144) (.c (.int .u64 0)), (some (142, true)), [144]⟩,
    ⟨(some 146), .pick (.t 142) (.t 145) (.c (.bool false)), none, [145, 142]⟩,
    ⟨(some 147), .mov (.t 146), none, [146]⟩,
    ⟨(some 148), .mov (.t 12), (some (147, true)), []⟩,
    ⟨(some 149), .call (.c (.func (.func 25) [] [])) [(.t 148), (.c (.int .i64 1))], (some (147, true)), [148]⟩,
    ⟨(some 150), .bin .eql .none (.t 149) (.c (.str [])), (some (147, true)), [149]⟩,
    ⟨(some 151), .pick (.t 147) (.t 150) (.c (.bool false)), none, [150, 147]⟩,
    ⟨(some 152), .mov (.t 151), none, [151]⟩,
    ⟨(some 153), .mov (.t 12), (some (152, true)), []⟩,
    ⟨(some 154), .call (.c (.func (.func 28) [] [])) [(.t 153)], (some (152, true)), [153]⟩,
    ⟨(some 155), .bin .eql .none (.t 154) (.c (.int .i64 0)), (some (152, true)), [154]⟩,
    ⟨(some 156), .pick (.t 152) (.t 155) (.c (.bool false)), none, [155, 152]⟩,
    ⟨(some 157), .mov (.t 156), none, [156]⟩,
    ⟨(some 158), .mov (.t 12), (some (157, true)), []⟩,
    ⟨(some 159), .call (.c (.func (.func 24) [] [])) [(.t 158)], (some (157, true)), [158]⟩,
    ⟨(some 160), .bin .eql .none (.t 159) (.c (.int .i64 0)), (some (157, true)), [159]⟩,
    ⟨(some 161), .pick (.t 157) (.t 160) (.c (.bool false)), none, [160, 157]⟩,
    ⟨(some 162), .mov (.t 161), none, [161]⟩,
    ⟨(some 163), .mov (.t 12), (some (162, true)), []⟩,
    ⟨(some 164), .call (.c (.func (.func 26) [] [])) [(.t 163)], (some (162, true)), [163]⟩,
    ⟨(some 165), .bin .eql .none (.t 164) (.c (.str [])), (some (162, true)), [164]⟩,
    ⟨(some 166), .pick (.t 162) (.t 165) (.c (.bool false)), none, [165, 162]⟩,
    ⟨(some 167), .mov (.t 166), none, [166]⟩,
    ⟨(some 168), .mov (.t 12), (some (167, true)), [12]⟩,
    ⟨(some 169), .call (.c (.func (.func 23) [] [])) [(.t 168)], (some (167, true)), [168]⟩,
    ⟨(some 170), .bin .eql .none (.t 169) (.c (.int .i64 1)), (some (167, true)), [169]⟩,
    ⟨(some 171), .pick (.t 167) (.t 170) (.c (.bool false)), none, [170, 167]⟩,
    ⟨(some 0), .mov (.t 171), none, [171]⟩])
  (.ret))))))))))))))))), 172, [.tmp 0]⟩
theorem f7_ok : compF Try.prog Try.f7 [⟨0, [], [], [[0]]⟩, ⟨0, [], [], [[], [13]]⟩, ⟨0, [], [], [[14]]⟩, ⟨0, [], [], [[14], [15]]⟩, ⟨0, [], [], [[], [16], [], [18], [], [20], [17], [19], [21]]⟩, ⟨0, [], [], [[], [22], [23]]⟩, ⟨0, [], [], [[], [24], [25]]⟩, ⟨0, [], [], [[], [26], [27]]⟩, ⟨0, [], [], [[], [28, 29]]⟩, ⟨0, [], [], [[], [30], [31]]⟩, ⟨0, [], [], [[], [32]]⟩, ⟨0, [], [], [[], [33, 34]]⟩, ⟨0, [], [], [[], [35], [36]]⟩, ⟨0, [], [], [[], [37, 38]]⟩, ⟨0, [], [], [[], [39], [40]]⟩, ⟨0, [], [], [[]]⟩, ⟨0, [], [], [[], [41, 42]]⟩, ⟨0, [], [], [[2], [43], [44], [3], [46], [47, 45], [48], [4], [50], [51, 49], [52], [5], [54], [55, 53], [56], [6], [58], [59, 57], [60], [7], [62], [63, 61], [64], [], [66], [67], [68, 65], [69], [8], [71], [72, 70], [73], [], [75], [76], [77, 74], [78], [], [80], [81], [82, 79], [83], [], [85], [86], [87, 84], [88], [], [90], [91], [92, 89], [93], [1], [95], [96], [97, 94], [98], [10], [100], [101, 99], [102], [11], [104], [105, 103], [106], [9], [108], [109], [110, 107], [111], [], [113], [114, 112], [115], [], [117], [118, 116], [119], [], [121], [122], [123, 120], [124], [], [126], [127, 125], [128], [], [130], [131, 129], [132], [], [134], [135, 133], [136], [], [138], [139], [140, 137], [141], [], [143], [144], [145, 142], [146], [], [148], [149], [150, 147], [151], [], [153], [154], [155, 152], [156], [], [158], [159], [160, 157], [161], [], [163], [164], [165, 162], [166], [12], [168], [169], [170, 167], [171]]⟩] = some f7 := by kernel_rfl

/-! 8: polyglot/polyglotlaw01.OctetScript -/
def f8_M0 : List Bool := [false, true, false, false, false, true, true, true, false, false, false, false, false, false, false, false, false, false, false, false, false, false, false, false, false, false, false, false, false, false, false, false, false, false, false, false, false, false, false, false, false, false, false, false, false, false, false, false, false, false, false, false, false, false, false, false, false, false, false, false, false, false, false, false, false, false, false, false, false, false, false, false, false, false, false, false, false, false, false, false, false, false, false, false, false, false, false, false, false, false, false, false, false, false, false, false, false, false, false, false, false, false, false, false, false, false, false, false]
def f8_O0 : List Bool := [false, false, false, false, true, false, false, false, false, false, false, false, false, false, false, false, false, false, false, false, false, false, false, false, false, false, false, false, false, false, false, false, false, false, false, false, false, false, false, false, false, false, false, false, false, false, false, false, false, false, false, false, false, false, false, false, false, false, false, false, false, false, false, false, false, false, false, false, false, false, false, false, false, false, false, false, false, false, false, false, false, false, false, false, false, false, false, false, false, false, false, false, false, false, false, false, false, false, false, false, false, false, false, false, false, false, false, false]
def f8_L0 : AC := .seq (.seq (.ops [⟨(some 24), .mov (.t 7), none, []⟩,
    ⟨(some 25), .mov (.t 1), none, []⟩,
    ⟨(some 26), .len (.t 25), none, [25]⟩,
    ⟨(some 27), .bin .lss .none (.t 24) (.t 26), none, [26, 24]⟩])
  (.cond (.t 27)
   (.skip)
   (.exit 0)))
  (.seq (.block 1 (.seq (.ops [⟨(some 30), .mov (.t 1), none, [27]⟩,
     ⟨(some 31), .mov (.t 7), none, []⟩,
     ⟨(some 32), .indexAddr 2 (.t 30) (.t 31), none, [31, 30]⟩,
     ⟨(some 33), .fieldAddr 1 (.t 32), none, [32]⟩,
     ⟨(some 34), .load1 (.t 33), none, [33]⟩,
     ⟨(some 8), .mov (.t 34), none, [34]⟩])
   (.seq (.ops [⟨(some 9), .mov (.c (.bool true)), none, []⟩])
   (.seq (.seq (.ops [⟨(some 35), .mov (.t 1), none, []⟩,
     ⟨(some 36), .mov (.t 7), none, []⟩,
     ⟨(some 37), .indexAddr 2 (.t 35) (.t 36), none, [36, 35]⟩,
     ⟨(some 38), .fieldAddr 0 (.t 37), none, [37]⟩,
     ⟨(some 39), .load1 (.t 38), none, [38]⟩,
     ⟨(some 40), .call (.c (.func (.func 13) [] [])) [(.t 39), (.c (.int .i64 4))], none, [39]⟩])
   (.block 2 (.seq (.ops [⟨(some 48), .bin .eql .none (.t 40) (.c (.int .i64 0)), none, []⟩,
      ⟨(some 47), .mov (.t 48), none, [48]⟩])
    (.cond (.t 47)
     (.ops [⟨(some 49), .mov (.t 5), none, [47]⟩,
       ⟨(some 50), .mov (.t 8), none, []⟩,
       ⟨(some 51), .call (.c (.func (.func 27) [] [])) [(.t 49), (.t 50)], none, [49, 50]⟩,
       ⟨(some 52), .mov (.t 6), none, []⟩,
       ⟨(some 53), .mov (.t 8), none, [8]⟩,
       ⟨(some 54), .call (.c (.func (.func 32) [] [])) [(.t 52), (.t 53)], none, [52, 53]⟩,
       ⟨(some 55), .bin .eql .none (.t 51) (.t 54), none, [54, 51]⟩,
       ⟨(some 9), .mov (.t 55), none, [55]⟩])
     (.seq (.ops [⟨(some 57), .bin .eql .none (.t 40) (.c (.int .i64 1)), none, [47]⟩,
       ⟨(some 56), .mov (.t 57), none, [57]⟩])
     (.cond (.t 56)
      (.ops [⟨(some 58), .mov (.t 5), none, [56]⟩,
        ⟨(some 59), .mov (.t 8), none, []⟩,
        ⟨(some 60), .call (.c (.func (.func 29) [] [])) [(.t 58), (.t 59)], none, [58, 59]⟩,
        ⟨(some 61), .mov (.t 6), none, []⟩,
        ⟨(some 62), .mov (.t 8), none, [8]⟩,
        ⟨(some 63), .call (.c (.func (.func 33) [] [])) [(.t 61), (.t 62)], none, [61, 62]⟩,
        ⟨(some 64), .bin .eql .none (.t 60) (.t 63), none, [63, 60]⟩,
        ⟨(some 9), .mov (.t 64), none, [64]⟩])
      (.seq (.ops [⟨(some 66), .bin .eql .none (.t 40) (.c (.int .i64 2)), none, [56, 40]⟩,
        ⟨(some 65), .mov (.t 66), none, [66]⟩])
      (.cond (.t 65)
       (.ops [⟨(some 67), .mov (.t 5), none, [65]⟩,
         ⟨(some 68), .mov (.t 8), none, []⟩,
         ⟨(some 69), .call (.c (.func (.func 25) [] [])) [(.t 67), (.t 68)], none, [67, 68]⟩,
         ⟨(some 70), .mov (.t 6), none, []⟩,
         ⟨(some 71), .mov (.t 8), none, [8]⟩,
         ⟨(some 72), .call (.c (.func (.func 34) [] [])) [(.t 70), (.t 71)], none, [70, 71]⟩,
         ⟨(some 73), .bin .eql .none (.t 69) (.t 72), none, [72, 69]⟩,
         ⟨(some 9), .mov (.t 73), none, [73]⟩])
       (.seq (.ops [⟨(some 41), .mov (.t 5), none, [65]⟩,
         ⟨(some 42), .mov (.t 8), none, []⟩,
         ⟨(some 43), .call (.c (.func (.func 30) [] [])) [(.t 41), (.t 42)], none, [41, 42, 43]⟩])
       (.ops [⟨(some 44), .mov (.t 6), none, []⟩,
         ⟨(some 45), .mov (.t 8), none, [8]⟩,
         ⟨(some 46), .call (.c (.func (.func 35) [] [])) [(.t 44), (.t 45)], none, [44, 45, 46]⟩]))))))))))
   (.seq (.quiet [⟨(some 74), .mov (.t 9), none, [9]⟩,
     ⟨(some 75), .not (.t 74), none, [74]⟩,
     ⟨(some 76), .mov (.t 75), none, [75]⟩,
     ⟨(some 77), .mov (.t 5), (some (76, false)), []⟩,
     ⟨(some 78), .call (.c (.func (.func 28) [] [])) [(.t 77)], (some (76, false)), [77]⟩,
     ⟨(some 79), .mov (.t 6), (some (76, false)), []⟩,
     ⟨(some 80), .nilCheck (.t 79), (some (76, false)), [79]⟩,
     ⟨(some 81), .fieldAddr 1 (.t 80), (some (76, false)), [80]⟩,
     ⟨(some 82), .load1 (.t 81), (some (76, false)), [81]⟩,
     ⟨(some 83), .bin .neq .none (.t 78) (.t 82), (some (76, false)), [82, 78]⟩,
     ⟨(some 84), .pick (.t 76) (.c (.bool true)) (.t 83), none, [83, 76]⟩,
     ⟨(some 85), .mov (.t 84), none, [84]⟩,
     ⟨(some 86), .mov (.t 5), (some (85, false)), []⟩,
     ⟨(some 87), .call (.c (.func (.func 24) [] [])) [(.t 86)], (some (85, false)), [86]⟩,
     ⟨(some 88), .mov (.t 6), (some (85, false)), []⟩,
     ⟨(some 89), .call (.c (.func (.func 36) [] [])) [(.t 88)], (some (85, false)), [88]⟩,
     ⟨(some 90), .bin .neq .none (.t 87) (.t 89), (some (85, false)), [89, 87]⟩,
     ⟨(some 91), .pick (.t 85) (.c (.bool true)) (.t 90), none, [90, 85]⟩,
     ⟨(some 92), .mov (.t 91), none, [91]⟩,
     ⟨(some 93), .mov (.t 5), (some (92, false)), []⟩,
     ⟨(some 94), .call (.c (.func (.func 26) [] [])) [(.t 93)], (some (92, false)), [93]⟩,
     ⟨(some 95), .mov (.t 6), (some (92, false)), []⟩,
     ⟨(some 96), .call (.c (.func (.func 37) [] [])) [(.t 95)], (some (92, false)), [95]⟩,
     ⟨(some 97), .bin .neq .none (.t 94) (.t 96), (some (92, false)), [96, 94]⟩,
     ⟨(some 98), .pick (.t 92) (.c (.bool true)) (.t 97), none, [97, 92]⟩,
     ⟨(some 99), .mov (.t 98), none, [98]⟩,
     ⟨(some 100), .mov (.t 5), (some (99, false)), []⟩,
     ⟨(some 101), .call (.c (.func (.func 23) [] [])) [(.t 100)], (some (99, false)), [100]⟩,
     ⟨(some 102), .mov (.t 6), (some (99, false)), []⟩,
     ⟨(some 103), .nilCheck (.t 102), (some (99, false)), [102]⟩,
     ⟨(some 104), .fieldAddr 2 (.t 103), (some (99, false)), [103]⟩,
     ⟨(some 105), .load1 (.t 104), (some (99, false)), [104]⟩,
     ⟨(some 106), .bin .neq .none (.t 101) (.t 105), (some (99, false)), [105, 101]⟩,
     ⟨(some 107), .pick (.t 99) (.c (.bool true)) (.t 106), none, [106, 99]⟩])
   (.cond (.t 107)
    (.seq (.ops [⟨(some 4), .mov (.c (.bool false)), none, [107]⟩])
    (.ret))
    (.skip)))))))
  (.ops [⟨(some 28), .mov (.t 7), none, [107, 7]⟩,
    ⟨(some 29), .bin .add .none (.t 28) (.c (.int .i64 1)), none, [28]⟩,
    ⟨(some 7), .mov (.t 29), none, [29]⟩]))
/-- live: [1, 5, 6, 7] -/
def f8_S0 (x1 x5 x6 x7 : KV) : List KV := [.junk, x1, .junk, .junk, .junk, x5, x6, x7, .junk, .junk, .junk, .junk, .junk, .junk, .junk, .junk, .junk, .junk, .junk, .junk, .junk, .junk, .junk, .junk, .junk, .junk, .junk, .junk, .junk, .junk, .junk, .junk, .junk, .junk, .junk, .junk, .junk, .junk, .junk, .junk, .junk, .junk, .junk, .junk, .junk, .junk, .junk, .junk, .junk, .junk, .junk, .junk, .junk, .junk, .junk, .junk, .junk, .junk, .junk, .junk, .junk, .junk, .junk, .junk, .junk, .junk, .junk, .junk, .junk, .junk, .junk, .junk, .junk, .junk, .junk, .junk, .junk, .junk, .junk, .junk, .junk, .junk, .junk, .junk, .junk, .junk, .junk, .junk, .junk, .junk, .junk, .junk, .junk, .junk, .junk, .junk, .junk, .junk, .junk, .junk, .junk, .junk, .junk, .junk, .junk, .junk, .junk, .junk]
/-- live: [4] -/
def f8_E0 (x4 : KV) : List KV := [.junk, .junk, .junk, .junk, x4, .junk, .junk, .junk, .junk, .junk, .junk, .junk, .junk, .junk, .junk, .junk, .junk, .junk, .junk, .junk, .junk, .junk, .junk, .junk, .junk, .junk, .junk, .junk, .junk, .junk, .junk, .junk, .junk, .junk, .junk, .junk, .junk, .junk, .junk, .junk, .junk, .junk, .junk, .junk, .junk, .junk, .junk, .junk, .junk, .junk, .junk, .junk, .junk, .junk, .junk, .junk, .junk, .junk, .junk, .junk, .junk, .junk, .junk, .junk, .junk, .junk, .junk, .junk, .junk, .junk, .junk, .junk, .junk, .junk, .junk, .junk, .junk, .junk, .junk, .junk, .junk, .junk, .junk, .junk, .junk, .junk, .junk, .junk, .junk, .junk, .junk, .junk, .junk, .junk, .junk, .junk, .junk, .junk, .junk, .junk, .junk, .junk, .junk, .junk, .junk, .junk, .junk, .junk]
def f8_D0 {α : Type} (fr : List KV) (no : α) (yes : KV → KV → KV → KV → α) : α :=
  match pickM f8_M0 fr with
  | some [x1, x5, x6, x7] => yes x1 x5 x6 x7
  | _ => no
theorem f8_D0_inv {β : Type} {fr : List KV} {yes : KV → KV → KV → KV → Option β} {r : β} (h : f8_D0 fr none yes = some r) : ∃ x1 x5 x6 x7, maskK f8_M0 fr = f8_S0 x1 x5 x6 x7 ∧ yes x1 x5 x6 x7 = some r := by
  unfold f8_D0 at h
  split at h
  · rename_i hp
    exact ⟨_, _, _, _, pickM_mask _ _ _ hp, h⟩
  · cases h
def f8 : AFn := ⟨.seq (.ops [⟨(some 4), .mov (.c (.bool false)), none, [4]⟩])
  (.seq (.seq (.ops [⟨(some 10), .call (.c (.func (.func 12) [] [])) [], none, []⟩,
    ⟨(some 11), .not (.t 10), none, [10]⟩])
  (.cond (.t 11)
   (.seq (.ops [⟨(some 4), .mov (.c (.bool false)), none, [11]⟩])
   (.ret))
   (.skip)))
  (.seq (.seq (.ops [⟨(some 12), .mov (.t 0), none, [11]⟩,
    ⟨(some 13), .lenS (.t 12), none, [12]⟩,
    ⟨(some 14), .bin .gtr .none (.t 13) (.c (.int .i64 200)), none, [13]⟩,
    ⟨(some 15), .mov (.t 14), none, [14]⟩,
    ⟨(some 16), .mov (.t 1), (some (15, false)), []⟩,
    ⟨(some 17), .len (.t 16), (some (15, false)), [16]⟩,
    ⟨(some 18), .bin .gtr .none (.t 17) (.c (.int .i64 60)), (some (15, false)), [17]⟩,
    ⟨(some 19), .pick (.t 15) (.c (.bool true)) (.t 18), none, [18, 15]⟩])
  (.cond (.t 19)
   (.seq (.ops [⟨(some 4), .mov (.c (.bool true)), none, [19]⟩])
   (.ret))
   (.skip)))
  (.seq (.ops [⟨(some 20), .mov (.t 0), none, [19]⟩,
    ⟨(some 21), .call (.c (.func (.func 22) [] [])) [(.t 20)], none, [20]⟩,
    ⟨(some 22), .mov (.t 0), none, [0]⟩,
    ⟨(some 23), .call (.c (.func (.func 31) [] [])) [(.t 22)], none, [22]⟩,
    ⟨(some 5), .mov (.t 21), none, [21]⟩,
    ⟨(some 6), .mov (.t 23), none, [23]⟩])
  (.seq (.seq (.ops [⟨(some 7), .mov (.c (.int .i64 0)), none, []⟩])
  (.block 0 (.loop 0 f8_M0 f8_O0 f8_L0)))
  (.seq (.ops [⟨(some 4), .mov (.c (.bool true)), none, [27]⟩])
  (.ret)))))), 108, [.tmp 4]⟩
theorem f8_ok : compF Try.prog Try.f8 [⟨0, [], [], [[4]]⟩, ⟨0, [], [], [[], [10]]⟩, ⟨0, [], [], [[11]]⟩, ⟨0, [], [], [[11], [12], [13], [14], [], [16], [17], [18, 15]]⟩, ⟨0, [], [], [[19]]⟩, ⟨0, [], [], [[19], [20], [0], [22], [21], [23]]⟩, ⟨0, [], [], [[]]⟩, ⟨0, [false, true, false, false, false, true, true, true, false, false, false, false, false, false, false, false, false, false, false, false, false, false, false, false, false, false, false, false, false, false, false, false, false, false, false, false, false, false, false, false, false, false, false, false, false, false, false, false, false, false, false, false, false, false, false, false, false, false, false, false, false, false, false, false, false, false, false, false, false, false, false, false, false, false, false, false, false, false, false, false, false, false, false, false, false, false, false, false, false, false, false, false, false, false, false, false, false, false, false, false, false, false, false, false, false, false, false, false], [false, false, false, false, true, false, false, false, false, false, false, false, false, false, false, false, false, false, false, false, false, false, false, false, false, false, false, false, false, false, false, false, false, false, false, false, false, false, false, false, false, false, false, false, false, false, false, false, false, false, false, false, false, false, false, false, false, false, false, false, false, false, false, false, false, false, false, false, false, false, false, false, false, false, false, false, false, false, false, false, false, false, false, false, false, false, false, false, false, false, false, false, false, false, false, false, false, false, false, false, false, false, false, false, false, false, false, false], []⟩, ⟨0, [], [], [[], [], [25], [26, 24]]⟩, ⟨0, [], [], [[27], [], [31, 30], [32], [33], [34]]⟩, ⟨0, [], [], [[]]⟩, ⟨0, [], [], [[], [], [36, 35], [37], [38], [39]]⟩, ⟨0, [], [], [[], [48]]⟩, ⟨0, [], [], [[47], [], [49, 50], [], [8], [52, 53], [54, 51], [55]]⟩, ⟨0, [], [], [[47], [57]]⟩, ⟨0, [], [], [[56], [], [58, 59], [], [8], [61, 62], [63, 60], [64]]⟩, ⟨0, [], [], [[56, 40], [66]]⟩, ⟨0, [], [], [[65], [], [67, 68], [], [8], [70, 71], [72, 69], [73]]⟩, ⟨0, [], [], [[65], [], [41, 42, 43]]⟩, ⟨0, [], [], [[], [8], [44, 45, 46]]⟩, ⟨0, [], [], [[9], [74], [75], [], [77], [], [79], [80], [81], [82, 78], [83, 76], [84], [], [86], [], [88], [89, 87], [90, 85], [91], [], [93], [], [95], [96, 94], [97, 92], [98], [], [100], [], [102], [103], [104], [105, 101], [106, 99]]⟩, ⟨0, [], [], [[107]]⟩, ⟨0, [], [], [[107, 7], [28], [29]]⟩, ⟨0, [], [], [[27]]⟩] = some f8 := by kernel_rfl

/-! 9: polyglot/polyglotlaw03.UstringBack -/
def f9 : AFn := ⟨.seq (.ops [⟨(some 6), .mov (.c (.bool false)), none, [6]⟩])
  (.seq (.seq (.ops [⟨(some 22), .call (.c (.func (.func 16) [] [])) [], none, []⟩,
    ⟨(some 23), .not (.t 22), none, [22]⟩])
  (.cond (.t 23)
   (.seq (.ops [⟨(some 6), .mov (.c (.bool false)), none, [23]⟩])
   (.ret))
   (.skip)))
  (.seq (.seq (.ops [⟨(some 24), .mov (.t 0), none, [23]⟩,
    ⟨(some 25), .lenS (.t 24), none, [24]⟩,
    ⟨(some 26), .bin .gtr .none (.t 25) (.c (.int .i64 70000)), none, [25]⟩,
    ⟨(some 27), .mov (.t 26), none, [26]⟩,
    ⟨(some 28), .mov (.t 1), (some (27, false)), []⟩,
    ⟨(some 29), .lenS (.t 28), (some (27, false)), [28]⟩,
    ⟨(some 30), .bin .gtr .none (.t 29) (.c (.int .i64 1000)), (some (27, false)), [29]⟩,
    ⟨(some 31), .pick (.t 27) (.c (.bool true)) (.t 30), none, [30, 27]⟩,
    ⟨(some 32), .mov (.t 31), none, [31]⟩,
    ⟨(some 33), .mov (.t 2), (some (32, false)), []⟩,
    ⟨(some 34), .lenS (.t 33), (some (32, false)), [33]⟩,
    ⟨(some 35), .bin .gtr .none (.t 34) (.c (.int .i64 70000)), (some (32, false)), [34]⟩,
    ⟨(some 36), .pick (.t 32) (.c (.bool true)) (.t 35), none, [35, 32]⟩])
  (.cond (.t 36)
   (.seq (.ops [⟨(some 6), .mov (.c (.bool true)), none, [36]⟩])
   (.ret))
   (.skip)))
  (.seq (.seq (.ops [⟨(some 38), .mov (.t 0), none, [36]⟩,
    ⟨(some 39), .call (.c (.func (.func 38) [] [])) [(.t 38)], none, [38]⟩,
    ⟨(some 37), .mov (.t 39), none, [39]⟩,
    ⟨(some 40), .extract (.t 37) 0, none, []⟩,
    ⟨(some 41), .extract (.t 37) 1, none, [37]⟩,
    ⟨(some 7), .mov (.t 40), none, [40]⟩,
    ⟨(some 8), .mov (.t 41), none, [41]⟩])
  (.seq (.ops [⟨(some 42), .mov (.t 8), none, [8]⟩,
    ⟨(some 43), .bin .eql .none (.t 42) (.c (.int .i64 0)), none, [42]⟩])
  (.cond (.t 43)
   (.seq (.ops [⟨(some 45), .mov (.t 7), none, [43]⟩,
     ⟨(some 46), .mov (.t 1), none, []⟩,
     ⟨(some 47), .bin .add .none (.t 45) (.t 46), none, [46, 45]⟩,
     ⟨(some 48), .call (.c (.func (.func 39) [] [])) [(.t 47)], none, [47]⟩,
     ⟨(some 44), .mov (.t 48), none, [48]⟩,
     ⟨(some 49), .extract (.t 44) 0, none, []⟩,
     ⟨(some 50), .extract (.t 44) 1, none, []⟩,
     ⟨(some 51), .extract (.t 44) 2, none, [44]⟩,
     ⟨(some 9), .mov (.t 49), none, [49]⟩,
     ⟨(some 10), .mov (.t 50), none, [50]⟩,
     ⟨(some 11), .mov (.t 51), none, [51]⟩])
   (.seq (.ops [⟨(some 52), .mov (.t 11), none, [11]⟩,
     ⟨(some 53), .bin .neq .none (.t 52) (.c (.int .i64 0)), none, [52]⟩,
     ⟨(some 54), .mov (.t 53), none, [53]⟩,
     ⟨(some 55), .mov (.t 9), (some (54, false)), [9]⟩,
     ⟨(some 56), .mov (.t 0), (some (54, false)), []⟩,
     ⟨(some 57), .bin .neq .none (.t 55) (.t 56), (some (54, false)), [56, 55]⟩,
     ⟨(some 58), .pick (.t 54) (.c (.bool true)) (.t 57), none, [57, 54]⟩,
     ⟨(some 59), .mov (.t 58), none, [58]⟩,
     ⟨(some 60), .mov (.t 10), (some (59, false)), []⟩,
     ⟨(some 61), .mov (.t 0), (some (59, false)), []⟩,
     ⟨(some 62), .lenS (.t 61), (some (59, false)), [61]⟩,
     ⟨(some 63), .bin .add .none (.t 62) (.c (.int .i64 2)), (some (59, false)), [62]⟩,
     ⟨(some 64), .bin .neq .none (.t 60) (.t 63), (some (59, false)), [63, 60]⟩,
     ⟨(some 65), .pick (.t 59) (.c (.bool true)) (.t 64), none, [64, 59]⟩,
     ⟨(some 66), .mov (.t 65), none, [65]⟩,
     ⟨(some 67), .mov (.t 7), (some (66, false)), [7]⟩,
     ⟨(some 68), .lenS (.t 67), (some (66, false)), [67]⟩,
     ⟨(some 69), .mov (.t 10), (some (66, false)), [10]⟩,
     ⟨(some 70), .bin .neq .none (.t 68) (.t 69), (some (66, false)), [69, 68]⟩,
     ⟨(some 71), .pick (.t 66) (.c (.bool true)) (.t 70), none, [70, 66]⟩,
     ⟨(some 72), .mov (.t 71), none, [71]⟩,
     ⟨(some 73), .mov (.t 0), (some (72, false)), []⟩,
     ⟨(some 74), .call (.c (.func (.func 17) [] [])) [(.t 73)], (some (72, false)), [73]⟩,
     ⟨(some 75), .not (.t 74), (some (72, false)), [74]⟩,
     ⟨(some 76), .pick (.t 72) (.c (.bool true)) (.t 75), none, [75, 72]⟩])
   (.cond (.t 76)
    (.seq (.ops [⟨(some 6), .mov (.c (.bool false)), none, [76]⟩])
    (.ret))
    (.skip))))
   (.seq (.ops [⟨(some 77), .mov (.t 0), none, [43]⟩,
     ⟨(some 78), .call (.c (.func (.func 17) [] [])) [(.t 77)], none, [77]⟩,
     ⟨(some 79), .mov (.t 78), none, [78]⟩,
     ⟨(some 80), .mov (.t 7), (some (79, false)), [7]⟩,
     ⟨(some 81), .bin .neq .none (.t 80) (.c (.str [])), (some (79, false)), [80]⟩,
     ⟨(some 82), .pick (.t 79) (.c (.bool true)) (.t 81), none, [81, 79]⟩])
   (.cond (.t 82)
    (.seq (.ops [⟨(some 6), .mov (.c (.bool false)), none, [82]⟩])
    (.ret))
    (.skip))))))
  (.seq (.seq (.ops [⟨(some 84), .mov (.t 0), none, [82, 76]⟩,
    ⟨(some 85), .call (.c (.func (.func 40) [] [])) [(.t 84)], none, [84]⟩,
    ⟨(some 83), .mov (.t 85), none, [85]⟩,
    ⟨(some 86), .extract (.t 83) 0, none, []⟩,
    ⟨(some 87), .extract (.t 83) 1, none, [83]⟩,
    ⟨(some 12), .mov (.t 86), none, [86]⟩,
    ⟨(some 13), .mov (.t 87), none, [87]⟩])
  (.seq (.ops [⟨(some 88), .mov (.t 13), none, [13]⟩,
    ⟨(some 89), .bin .eql .none (.t 88) (.c (.int .i64 0)), none, [88]⟩])
  (.cond (.t 89)
   (.seq (.ops [⟨(some 91), .mov (.t 12), none, [89]⟩,
     ⟨(some 92), .mov (.t 1), none, [1]⟩,
     ⟨(some 93), .bin .add .none (.t 91) (.t 92), none, [92, 91]⟩,
     ⟨(some 94), .call (.c (.func (.func 41) [] [])) [(.t 93)], none, [93]⟩,
     ⟨(some 90), .mov (.t 94), none, [94]⟩,
     ⟨(some 95), .extract (.t 90) 0, none, []⟩,
     ⟨(some 96), .extract (.t 90) 1, none, []⟩,
     ⟨(some 97), .extract (.t 90) 2, none, [90]⟩,
     ⟨(some 14), .mov (.t 95), none, [95]⟩,
     ⟨(some 15), .mov (.t 96), none, [96]⟩,
     ⟨(some 16), .mov (.t 97), none, [97]⟩])
   (.seq (.ops [⟨(some 98), .mov (.t 16), none, [16]⟩,
     ⟨(some 99), .bin .neq .none (.t 98) (.c (.int .i64 0)), none, [98]⟩,
     ⟨(some 100), .mov (.t 99), none, [99]⟩,
     ⟨(some 101), .mov (.t 14), (some (100, false)), [14]⟩,
     ⟨(some 102), .mov (.t 0), (some (100, false)), []⟩,
     ⟨(some 103), .bin .neq .none (.t 101) (.t 102), (some (100, false)), [102, 101]⟩,
     ⟨(some 104), .pick (.t 100) (.c (.bool true)) (.t 103), none, [103, 100]⟩,
     ⟨(some 105), .mov (.t 104), none, [104]⟩,
     ⟨(some 106), .mov (.t 15), (some (105, false)), []⟩,
     ⟨(some 107), .mov (.t 0), (some (105, false)), [0]⟩,
     ⟨(some 108), .lenS (.t 107), (some (105, false)), [107]⟩,
     ⟨(some 109), .bin .add .none (.t 108) (.c (.int .i64 2)), (some (105, false)), [108]⟩,
     ⟨(some 110), .bin .neq .none (.t 106) (.t 109), (some (105, false)), [109, 106]⟩,
     ⟨(some 111), .pick (.t 105) (.c (.bool true)) (.t 110), none, [110, 105]⟩,
     ⟨(some 112), .mov (.t 111), none, [111]⟩,
     ⟨(some 113), .mov (.t 12), (some (112, false)), [12]⟩,
     ⟨(some 114), .lenS (.t 113), (some (112, false)), [113]⟩,
     ⟨(some 115), .mov (.t 15), (some (112, false)), [15]⟩,
     ⟨(some 116), .bin .neq .none (.t 114) (.t 115), (some (112, false)), [115, 114]⟩,
     ⟨(some 117), .pick (.t 112) (.c (.bool true)) (.t 116), none, [116, 112]⟩])
   (.cond (.t 117)
    (.seq (.ops [⟨(some 6), .mov (.c (.bool false)), none, [117]⟩])
    (.ret))
    (.skip))))
   (.seq (.ops [⟨(some 118), .mov (.t 0), none, [89, 0]⟩,
     ⟨(some 119), .lenS (.t 118), none, [118]⟩,
     ⟨(some 120), .bin .leq .none (.t 119) (.c (.int .i64 65535)), none, [119]⟩])
   (.cond (.t 120)
    (.seq (.ops [⟨(some 6), .mov (.c (.bool false)), none, [120]⟩])
    (.ret))
    (.skip))))))
  (.seq (.ops [⟨(some 122), .mov (.t 2), none, [120, 117]⟩,
    ⟨(some 123), .call (.c (.func (.func 39) [] [])) [(.t 122)], none, [122]⟩,
    ⟨(some 121), .mov (.t 123), none, [123]⟩,
    ⟨(some 124), .extract (.t 121) 0, none, []⟩,
    ⟨(some 125), .extract (.t 121) 1, none, []⟩,
    ⟨(some 126), .extract (.t 121) 2, none, [121]⟩,
    ⟨(some 17), .mov (.t 124), none, [124]⟩,
    ⟨(some 18), .mov (.t 125), none, [125]⟩,
    ⟨(some 19), .mov (.t 126), none, [126]⟩])
  (.seq (.seq (.ops [⟨(some 127), .mov (.t 19), none, [19]⟩,
    ⟨(some 128), .bin .neq .none (.t 127) (.c (.int .i64 0)), none, [127]⟩])
  (.cond (.t 128)
   (.seq (.ops [⟨(some 129), .mov (.t 17), none, [128, 17]⟩,
     ⟨(some 130), .bin .eql .none (.t 129) (.c (.str [])), none, [129]⟩,
     ⟨(some 131), .mov (.t 130), none, [130]⟩,
     ⟨(some 132), .mov (.t 18), (some (131, true)), [18]⟩,
     ⟨(some 133), .bin .eql .none (.t 132) (.c (.int .i64 0)), (some (131, true)), [132]⟩,
     ⟨(some 134), .pick (.t 131) (.t 133) (.c (.bool false)), none, [133, 131]⟩,
     ⟨(some 6), .mov (.t 134), none, [134]⟩])
   (.ret))
   (.skip)))
  (.seq (.ops [⟨(some 136), .mov (.t 17), none, [128, 17]⟩,
    ⟨(some 137), .call (.c (.func (.func 38) [] [])) [(.t 136)], none, [136]⟩,
    ⟨(some 135), .mov (.t 137), none, [137]⟩,
    ⟨(some 138), .extract (.t 135) 0, none, []⟩,
    ⟨(some 139), .extract (.t 135) 1, none, [135]⟩,
    ⟨(some 20), .mov (.t 138), none, [138]⟩,
    ⟨(some 21), .mov (.t 139), none, [139]⟩])
  (.seq (.ops [⟨(some 140), .mov (.t 21), none, [21]⟩,
    ⟨(some 141), .bin .eql .none (.t 140) (.c (.int .i64 0)), none, [140]⟩,
    ⟨(some 142), .mov (.t 141), none, [141]⟩,
    ⟨(some 143), .mov (.t 18), (some (142, true)), []⟩,
    ⟨(some 144), .mov (.t 2), (some (142, true)), []⟩,
    ⟨(some 145), .lenS (.t 144), (some (142, true)), [144]⟩,
    ⟨(some 146), .bin .leq .none (.t 143) (.t 145), (some (142, true)), [145, 143]⟩,
    ⟨(some 147), .pick (.t 142) (.t 146) (.c (.bool false)), none, [146, 142]⟩,
    ⟨(some 148), .mov (.t 147), none, [147]⟩,
    ⟨(some 149), .mov (.t 20), (some (148, true)), [20]⟩,
    ⟨(some 150), .mov (.t 2), (some (148, true)), [2]⟩,
    ⟨(some 151), .mov (.t 18), (some (148, true)), [18]⟩,
    ⟨(some 152), .substr (.t 150) none (some (.t 151)), (some (148, true)), [151, 150]⟩,
    ⟨(some 153), .bin .eql .none (.t 149) (.t 152), (some (148, true)), [152, 149]⟩,
    ⟨(some 154), .pick (.t 148) (.t 153) (.c (.bool false)), none, [153, 148]⟩,
    ⟨(some 6), .mov (.t 154), none, [154]⟩])
  (.ret))))))))), 155, [.tmp 6]⟩
theorem f9_ok : compF Try.prog Try.f9 [⟨0, [], [], [[6]]⟩, ⟨0, [], [], [[], [22]]⟩, ⟨0, [], [], [[23]]⟩, ⟨0, [], [], [[23], [24], [25], [26], [], [28], [29], [30, 27], [31], [], [33], [34], [35, 32]]⟩, ⟨0, [], [], [[36]]⟩, ⟨0, [], [], [[36], [38], [39], [], [37], [40], [41]]⟩, ⟨0, [], [], [[8], [42]]⟩, ⟨0, [], [], [[43], [], [46, 45], [47], [48], [], [], [44], [49], [50], [51]]⟩, ⟨0, [], [], [[11], [52], [53], [9], [], [56, 55], [57, 54], [58], [], [], [61], [62], [63, 60], [64, 59], [65], [7], [67], [10], [69, 68], [70, 66], [71], [], [73], [74], [75, 72]]⟩, ⟨0, [], [], [[76]]⟩, ⟨0, [], [], [[43], [77], [78], [7], [80], [81, 79]]⟩, ⟨0, [], [], [[82]]⟩, ⟨0, [], [], [[82, 76], [84], [85], [], [83], [86], [87]]⟩, ⟨0, [], [], [[13], [88]]⟩, ⟨0, [], [], [[89], [1], [92, 91], [93], [94], [], [], [90], [95], [96], [97]]⟩, ⟨0, [], [], [[16], [98], [99], [14], [], [102, 101], [103, 100], [104], [], [0], [107], [108], [109, 106], [110, 105], [111], [12], [113], [15], [115, 114], [116, 112]]⟩, ⟨0, [], [], [[117]]⟩, ⟨0, [], [], [[89, 0], [118], [119]]⟩, ⟨0, [], [], [[120]]⟩, ⟨0, [], [], [[120, 117], [122], [123], [], [], [121], [124], [125], [126]]⟩, ⟨0, [], [], [[19], [127]]⟩, ⟨0, [], [], [[128, 17], [129], [130], [18], [132], [133, 131], [134]]⟩, ⟨0, [], [], [[128, 17], [136], [137], [], [135], [138], [139]]⟩, ⟨0, [], [], [[21], [140], [141], [], [], [144], [145, 143], [146, 142], [147], [20], [2], [18], [151, 150], [152, 149], [153, 148], [154]]⟩] = some f9 := by kernel_rfl

/-! 10: polyglot/polyglotlaw03.UstringNames -/
def f10_M0 : List Bool := [false, true, true, false, false, false, false, false, false, false, false, false, false, false, false, false, false, false, false, false, false, false, false, false, false, false, false, false, false, false, false, false, false, false, false, false, false, false, false, false, false, false, false, false, false, false, false, false, false, false, false, false, false, false, false, false, false, false, false, false, false, false, false, false, false, false, false, false, false, false, false, false, false, false, false, false, false, false, false, false, false, false, false, false, false, false, false, false, false, false, false, false, false, false, false, false, false, false, false, false, false, false, false, false, false, false, false, false, false, false, false, false, false, false, false, false, false, false, false, false, false, false, false, false, false, false, false, false, false, false, false, false, false, false, false, false, false, false, false, false, false, false, false, false, false, false, false, false, false, false, false, false, false, false, false, false, false, false, false, false, false, false, false, false, false, false, false, false, false, false, false, false, false]
def f10_O0 : List Bool := [true, false, false, false, false, false, false, false, false, false, false, false, false, false, false, false, false, false, false, false, false, false, false, false, false, false, false, false, false, false, false, false, false, false, false, false, false, false, false, false, false, false, false, false, false, false, false, false, false, false, false, false, false, false, false, false, false, false, false, false, false, false, false, false, false, false, false, false, false, false, false, false, false, false, false, false, false, false, false, false, false, false, false, false, false, false, false, false, false, false, false, false, false, false, false, false, false, false, false, false, false, false, false, false, false, false, false, false, false, false, false, false, false, false, false, false, false, false, false, false, false, false, false, false, false, false, false, false, false, false, false, false, false, false, false, false, false, false, false, false, false, false, false, false, false, false, false, false, false, false, false, false, false, false, false, false, false, false, false, false, false, false, false, false, false, false, false, false, false, false, false, false, false]
def f10_L0 : AC := .seq (.seq (.ops [⟨(some 30), .mov (.t 2), none, []⟩,
    ⟨(some 31), .mov (.t 1), none, []⟩,
    ⟨(some 32), .len (.t 31), none, [31]⟩,
    ⟨(some 33), .bin .lss .none (.t 30) (.t 32), none, [32, 30]⟩])
  (.cond (.t 33)
   (.skip)
   (.exit 0)))
  (.seq (.block 1 (.seq (.ops [⟨(some 36), .mov (.t 1), none, [33]⟩,
     ⟨(some 37), .mov (.t 2), none, []⟩,
     ⟨(some 38), .indexAddr 1 (.t 36) (.t 37), none, [37, 36]⟩,
     ⟨(some 39), .load1 (.t 38), none, [38]⟩,
     ⟨(some 40), .call (.c (.func (.func 17) [] [])) [(.t 39)], none, [39]⟩,
     ⟨(some 41), .mov (.t 40), none, [40]⟩,
     ⟨(some 42), .mov (.t 1), (some (41, false)), []⟩,
     ⟨(some 43), .mov (.t 2), (some (41, false)), []⟩,
     ⟨(some 44), .indexAddr 1 (.t 42) (.t 43), (some (41, false)), [43, 42]⟩,
     ⟨(some 45), .load1 (.t 44), (some (41, false)), [44]⟩,
     ⟨(some 46), .call (.c (.func (.func 18) [] [])) [(.t 45)], (some (41, false)), [45]⟩,
     ⟨(some 47), .bin .neq .none (.t 46) (.c (.int .i64 0)), (some (41, false)), [46]⟩,
     ⟨(some 48), .pick (.t 41) (.c (.bool true)) (.t 47), none, [47, 41]⟩])
   (.cond (.t 48)
    (.seq (.ops [⟨(some 0), .mov (.c (.bool false)), none, [48]⟩])
    (.ret))
    (.skip))))
  (.ops [⟨(some 34), .mov (.t 2), none, [48, 2]⟩,
    ⟨(some 35), .bin .add .none (.t 34) (.c (.int .i64 1)), none, [34]⟩,
    ⟨(some 2), .mov (.t 35), none, [35]⟩]))
/-- live: [1, 2] -/
def f10_S0 (x1 x2 : KV) : List KV := [.junk, x1, x2, .junk, .junk, .junk, .junk, .junk, .junk, .junk, .junk, .junk, .junk, .junk, .junk, .junk, .junk, .junk, .junk, .junk, .junk, .junk, .junk, .junk, .junk, .junk, .junk, .junk, .junk, .junk, .junk, .junk, .junk, .junk, .junk, .junk, .junk, .junk, .junk, .junk, .junk, .junk, .junk, .junk, .junk, .junk, .junk, .junk, .junk, .junk, .junk, .junk, .junk, .junk, .junk, .junk, .junk, .junk, .junk, .junk, .junk, .junk, .junk, .junk, .junk, .junk, .junk, .junk, .junk, .junk, .junk, .junk, .junk, .junk, .junk, .junk, .junk, .junk, .junk, .junk, .junk, .junk, .junk, .junk, .junk, .junk, .junk, .junk, .junk, .junk, .junk, .junk, .junk, .junk, .junk, .junk, .junk, .junk, .junk, .junk, .junk, .junk, .junk, .junk, .junk, .junk, .junk, .junk, .junk, .junk, .junk, .junk, .junk, .junk, .junk, .junk, .junk, .junk, .junk, .junk, .junk, .junk, .junk, .junk, .junk, .junk, .junk, .junk, .junk, .junk, .junk, .junk, .junk, .junk, .junk, .junk, .junk, .junk, .junk, .junk, .junk, .junk, .junk, .junk, .junk, .junk, .junk, .junk, .junk, .junk, .junk, .junk, .junk, .junk, .junk, .junk, .junk, .junk, .junk, .junk, .junk, .junk, .junk, .junk, .junk, .junk, .junk, .junk, .junk, .junk, .junk, .junk, .junk]
/-- live: [0] -/
def f10_E0 (x0 : KV) : List KV := [x0, .junk, .junk, .junk, .junk, .junk, .junk, .junk, .junk, .junk, .junk, .junk, .junk, .junk, .junk, .junk, .junk, .junk, .junk, .junk, .junk, .junk, .junk, .junk, .junk, .junk, .junk, .junk, .junk, .junk, .junk, .junk, .junk, .junk, .junk, .junk, .junk, .junk, .junk, .junk, .junk, .junk, .junk, .junk, .junk, .junk, .junk, .junk, .junk, .junk, .junk, .junk, .junk, .junk, .junk, .junk, .junk, .junk, .junk, .junk, .junk, .junk, .junk, .junk, .junk, .junk, .junk, .junk, .junk, .junk, .junk, .junk, .junk, .junk, .junk, .junk, .junk, .junk, .junk, .junk, .junk, .junk, .junk, .junk, .junk, .junk, .junk, .junk, .junk, .junk, .junk, .junk, .junk, .junk, .junk, .junk, .junk, .junk, .junk, .junk, .junk, .junk, .junk, .junk, .junk, .junk, .junk, .junk, .junk, .junk, .junk, .junk, .junk, .junk, .junk, .junk, .junk, .junk, .junk, .junk, .junk, .junk, .junk, .junk, .junk, .junk, .junk, .junk, .junk, .junk, .junk, .junk, .junk, .junk, .junk, .junk, .junk, .junk, .junk, .junk, .junk, .junk, .junk, .junk, .junk, .junk, .junk, .junk, .junk, .junk, .junk, .junk, .junk, .junk, .junk, .junk, .junk, .junk, .junk, .junk, .junk, .junk, .junk, .junk, .junk, .junk, .junk, .junk, .junk, .junk, .junk, .junk, .junk]
def f10_D0 {α : Type} (fr : List KV) (no : α) (yes : KV → KV → α) : α :=
  match pickM f10_M0 fr with
  | some [x1, x2] => yes x1 x2
  | _ => no
theorem f10_D0_inv {β : Type} {fr : List KV} {yes : KV → KV → Option β} {r : β} (h : f10_D0 fr none yes = some r) : ∃ x1 x2, maskK f10_M0 fr = f10_S0 x1 x2 ∧ yes x1 x2 = some r := by
  unfold f10_D0 at h
  split at h
  · rename_i hp
    exact ⟨_, _, pickM_mask _ _ _ hp, h⟩
  · cases h
def f10 : AFn := ⟨.seq (.ops [⟨(some 0), .mov (.c (.bool false)), none, [0]⟩])
  (.seq (.seq (.ops [⟨(some 27), .call (.c (.func (.func 16) [] [])) [], none, []⟩,
    ⟨(some 28), .not (.t 27), none, [27]⟩])
  (.cond (.t 28)
   (.seq (.ops [⟨(some 0), .mov (.c (.bool false)), none, [28]⟩])
   (.ret))
   (.skip)))
  (.seq (.ops [⟨(some 29), .buildSlice 1 9 (List.replicate 9 (.junk)) [(0, 1, (.c (.str [0]))), (1, 1, (.c (.str [97, 0]))), (2, 1, (.c (.str [237, 160, 128]))), (3, 1, (.c (.str [244, 144, 128, 128]))), (4, 1, (.c (.str [224, 128, 128]))), (5, 1, (.c (.str [195]))), (6, 1, (.c (.str [128]))), (7, 1, (.c (.str [255]))), (8, 1, (.c (.str [97, 98, 226, 130])))], none, [28]⟩,
    ⟨(some 1), .mov (.t 29), none, [29]⟩])
  (.seq (.seq (.ops [⟨(some 2), .mov (.c (.int .i64 0)), none, []⟩])
  (.block 0 (.loop 0 f10_M0 f10_O0 f10_L0)))
  (.seq (.ops [⟨(some 49), .call (.c (.func (.func 42) [] [])) [(.c (.str [97])), (.c (.int .i64 65536))], none, [33]⟩,
    ⟨(some 3), .mov (.t 49), none, [49]⟩])
  (.seq (.ops [⟨(some 51), .mov (.t 3), none, []⟩,
    ⟨(some 52), .call (.c (.func (.func 38) [] [])) [(.t 51)], none, [51]⟩,
    ⟨(some 50), .mov (.t 52), none, [52]⟩,
    ⟨(some 53), .extract (.t 50) 0, none, []⟩,
    ⟨(some 54), .extract (.t 50) 1, none, [50]⟩,
    ⟨(some 4), .mov (.t 53), none, [53, 4]⟩,
    ⟨(some 5), .mov (.t 54), none, [54]⟩])
  (.seq (.ops [⟨(some 56), .mov (.t 3), none, []⟩,
    ⟨(some 57), .call (.c (.func (.func 40) [] [])) [(.t 56)], none, [56]⟩,
    ⟨(some 55), .mov (.t 57), none, [57]⟩,
    ⟨(some 58), .extract (.t 55) 0, none, []⟩,
    ⟨(some 59), .extract (.t 55) 1, none, [55]⟩,
    ⟨(some 6), .mov (.t 58), none, [58, 6]⟩,
    ⟨(some 7), .mov (.t 59), none, [59]⟩])
  (.seq (.ops [⟨(some 61), .mov (.t 3), none, []⟩,
    ⟨(some 62), .substr (.t 61) (some (.c (.int .i64 1))) none, none, [61]⟩,
    ⟨(some 63), .call (.c (.func (.func 40) [] [])) [(.t 62)], none, [62]⟩,
    ⟨(some 60), .mov (.t 63), none, [63]⟩,
    ⟨(some 64), .extract (.t 60) 0, none, []⟩,
    ⟨(some 65), .extract (.t 60) 1, none, [60]⟩,
    ⟨(some 8), .mov (.t 64), none, [64, 8]⟩,
    ⟨(some 9), .mov (.t 65), none, [65]⟩])
  (.seq (.ops [⟨(some 67), .call (.c (.func (.func 39) [] [])) [(.c (.str [0]))], none, []⟩,
    ⟨(some 66), .mov (.t 67), none, [67]⟩,
    ⟨(some 68), .extract (.t 66) 0, none, []⟩,
    ⟨(some 69), .extract (.t 66) 1, none, []⟩,
    ⟨(some 70), .extract (.t 66) 2, none, [66]⟩,
    ⟨(some 10), .mov (.t 68), none, [68, 10]⟩,
    ⟨(some 11), .mov (.t 69), none, [69, 11]⟩,
    ⟨(some 12), .mov (.t 70), none, [70]⟩])
  (.seq (.ops [⟨(some 72), .call (.c (.func (.func 39) [] [])) [(.c (.str [0, 2, 97]))], none, []⟩,
    ⟨(some 71), .mov (.t 72), none, [72]⟩,
    ⟨(some 73), .extract (.t 71) 0, none, []⟩,
    ⟨(some 74), .extract (.t 71) 1, none, []⟩,
    ⟨(some 75), .extract (.t 71) 2, none, [71]⟩,
    ⟨(some 13), .mov (.t 73), none, [73, 13]⟩,
    ⟨(some 14), .mov (.t 74), none, [74, 14]⟩,
    ⟨(some 15), .mov (.t 75), none, [75]⟩])
  (.seq (.ops [⟨(some 77), .call (.c (.func (.func 39) [] [])) [(.c (.str [0, 2, 192, 128, 122]))], none, []⟩,
    ⟨(some 76), .mov (.t 77), none, [77]⟩,
    ⟨(some 78), .extract (.t 76) 0, none, []⟩,
    ⟨(some 79), .extract (.t 76) 1, none, []⟩,
    ⟨(some 80), .extract (.t 76) 2, none, [76]⟩,
    ⟨(some 16), .mov (.t 78), none, [78, 16]⟩,
    ⟨(some 17), .mov (.t 79), none, [79, 17]⟩,
    ⟨(some 18), .mov (.t 80), none, [80]⟩])
  (.seq (.ops [⟨(some 82), .call (.c (.func (.func 39) [] [])) [(.c (.str [0, 3, 226, 130, 172, 122]))], none, []⟩,
    ⟨(some 81), .mov (.t 82), none, [82]⟩,
    ⟨(some 83), .extract (.t 81) 0, none, []⟩,
    ⟨(some 84), .extract (.t 81) 1, none, []⟩,
    ⟨(some 85), .extract (.t 81) 2, none, [81]⟩,
    ⟨(some 19), .mov (.t 83), none, [83]⟩,
    ⟨(some 20), .mov (.t 84), none, [84]⟩,
    ⟨(some 21), .mov (.t 85), none, [85]⟩])
  (.seq (.ops [⟨(some 87), .call (.c (.func (.func 41) [] [])) [(.c (.str [0, 2, 192, 128, 122]))], none, []⟩,
    ⟨(some 86), .mov (.t 87), none, [87]⟩,
    ⟨(some 88), .extract (.t 86) 0, none, []⟩,
    ⟨(some 89), .extract (.t 86) 1, none, []⟩,
    ⟨(some 90), .extract (.t 86) 2, none, [86]⟩,
    ⟨(some 22), .mov (.t 88), none, [88]⟩,
    ⟨(some 23), .mov (.t 89), none, [89]⟩,
    ⟨(some 24), .mov (.t 90), none, [90]⟩])
  (.seq (.ops [⟨(some 92), .call (.c (.func (.func 20) [] [])) [(.c (.str [97, 226, 130, 172, 240, 159, 152, 128]))], none, []⟩,
    ⟨(some 91), .mov (.t 92), none, [92]⟩,
    ⟨(some 93), .extract (.t 91) 0, none, []⟩,
    ⟨(some 94), .extract (.t 91) 1, none, [91]⟩,
    ⟨(some 25), .mov (.t 93), none, [93]⟩,
    ⟨(some 26), .mov (.t 94), none, [94]⟩])
  (.seq (.ops [⟨(some 95), .mov (.t 5), none, [5]⟩,
    ⟨(some 96), .bin .eql .none (.t 95) (.c (.int .i64 6)), none, [95]⟩,
    ⟨(some 97), .mov (.t 96), none, [96]⟩,
    ⟨(some 98), .mov (.t 7), (some (97, true)), [7]⟩,
    ⟨(some 99), .bin .eql .none (.t 98) (.c (.int .i64 2)), (some (97, true)), [98]⟩,
    ⟨(some 100), .pick (.t 97) (.t 99) (.c (.bool false)), none, [99, 97]⟩,
    ⟨(some 101), .mov (.t 100), none, [100]⟩,
    ⟨(some 102), .mov (.t 9), (some (101, true)), [9]⟩,
    ⟨(some 103), .bin .eql .none (.t 102) (.c (.int .i64 0)), (some (101, true)), [102]⟩,
    ⟨(some 104), .pick (.t 101) (.t 103) (.c (.bool false)), none, [103, 101]⟩,
    ⟨(some 105), .mov (.t 104), none, [104]⟩,
    ⟨(some 106), .mov (.t 3), (some (105, true)), []⟩,
    ⟨(some 107), .call (.c (.func (.func 19) [] [])) [(.t 106)], (some (105, true)), [106]⟩,
    ⟨(some 108), .bin .eql .none (.t 107) (.c (.int .i64 (-1))), (some (105, true)), [107]⟩,
    ⟨(some 109), .pick (.t 105) (.t 108) (.c (.bool false)), none, [108, 105]⟩,
    ⟨(some 110), .mov (.t 109), none, [109]⟩,
    ⟨(some 111), .mov (.t 3), (some (110, true)), [3]⟩,
    ⟨(some 112), .call (.c (.func (.func 17) [] [])) [(.t 111)], (some (110, true)), [111]⟩,
    ⟨(some 113), .not (.t 112), (some (110, true)), [112]⟩,
    ⟨(some 114), .pick (.t 110) (.t 113) (.c (.bool false)), none, [113, 110]⟩,
    ⟨(some 115), .mov (.t 114), none, [114]⟩,
    ⟨(some 116), .call (.c (.func (.func 19) [] [])) [(.c (.str [97, 98, 255]))], (some (115, true)), []⟩,
    ⟨(some 117), .bin .eql .none (.t 116) (.c (.int .i64 2)), (some (115, true)), [116]⟩,
    ⟨(some 118), .pick (.t 115) (.t 117) (.c (.bool false)), none, [117, 115]⟩,
    ⟨(some 119), .mov (.t 118), none, [118]⟩,
    ⟨(some 120), .mov (.t 12), (some (119, true)), [12]⟩,
    ⟨(some 121), .bin .eql .none (.t 120) (.c (.int .i64 3)), (some (119, true)), [120]⟩,
    ⟨(some 122), .pick (.t 119) (.t 121) (.c (.bool false)), none, [121, 119]⟩,
    ⟨(some 123), .mov (.t 122), none, [122]⟩,
    ⟨(some 124), .mov (.t 15), (some (123, true)), [15]⟩,
    ⟨(some 125), .bin .eql .none (.t 124) (.c (.int .i64 3)), (some (123, true)), [124]⟩,
    ⟨(some 126), .pick (.t 123) (.t 125) (.c (.bool false)), none, [125, 123]⟩,
    ⟨(some 127), .mov (.t 126), none, [126]⟩,
    ⟨(some 128), .mov (.t 18), (some (127, true)), [18]⟩,
    ⟨(some 129), .bin .eql .none (.t 128) (.c (.int .i64 6)), (some (127, true)), [128]⟩,
    ⟨(some 130), .pick (.t 127) (.t 129) (.c (.bool false)), none, [129, 127]⟩,
    ⟨(some 131), .mov (.t 130), none, [130]⟩,
    ⟨(some 132), .mov (.t 21), (some (131, true)), [21]⟩,
    ⟨(some 133), .bin .eql .none (.t 132) (.c (.int .i64 0)), (some (131, true)), [132]⟩,
    ⟨(some 134), .pick (.t 131) (.t 133) (.c (.bool false)), none, [133, 131]⟩,
    ⟨(some 135), .mov (.t 134), none, [134]⟩,
    ⟨(some 136), .mov (.t 20), (some (135, true)), [20]⟩,
    ⟨(some 137), .bin .eql .none (.t 136) (.c (.int .i64 5)), (some (135, true)), [136]⟩,
    ⟨(some 138), .pick (.t 135) (.t 137) (.c (.bool false)), none, [137, 135]⟩,
    ⟨(some 139), .mov (.t 138), none, [138]⟩,
    ⟨(some 140), .mov (.t 19), (some (139, true)), [19]⟩,
    ⟨(some 141), .bin .eql .none (.t 140) (.c (.str [226, 130, 172])), (some (139, true)), [140]⟩,
    ⟨(some 142), .pick (.t 139) (.t 141) (.c (.bool false)), none, [141, 139]⟩,
    ⟨(some 143), .mov (.t 142), none, [142]⟩,
    ⟨(some 144), .mov (.t 24), (some (143, true)), [24]⟩,
    ⟨(some 145), .bin .eql .none (.t 144) (.c (.int .i64 0)), (some (143, true)), [144]⟩,
    ⟨(some 146), .pick (.t 143) (.t 145) (.c (.bool false)), none, [145, 143]⟩,
    ⟨(some 147), .mov (.t 146), none, [146]⟩,
    ⟨(some 148), .mov (.t 23), (some (147, true)), [23]⟩,
    ⟨(some 149), .bin .eql .none (.t 148) (.c (.int .i64 4)), (some (147, true)), [148]⟩,
    ⟨(some 150), .pick (.t 147) (.t 149) (.c (.bool false)), none, [149, 147]⟩,
    ⟨(some 151), .mov (.t 150), none, [150]⟩,
    ⟨(some 152), .mov (.t 22), (some (151, true)), [22]⟩,
    ⟨(some 153), .bin .eql .none (.t 152) (.c (.str [192, 128])), (some (151, true)), [152]⟩,
    ⟨(some 154), .pick (.t 151) (.t 153) (.c (.bool false)), none, [153, 151]⟩,
    ⟨(some 155), .mov (.t 154), none, [154]⟩,
    ⟨(some 156), .call (.c (.func (.func 18) [] [])) [(.c (.str [97, 226, 130, 172]))], (some (155, true)), []⟩,
    ⟨(some 157), .bin .eql .none (.t 156) (.c (.int .i64 2)), (some (155, true)), [156]⟩,
    ⟨(some 158), .pick (.t 155) (.t 157) (.c (.bool false)), none, [157, 155]⟩,
    ⟨(some 159), .mov (.t 158), none, [158]⟩,
    ⟨(some 160), .call (.c (.func (.func 17) [] [])) [(.c (.str []))], (some (159, true)), []⟩,
    ⟨(some 161), .pick (.t 159) (.t 160) (.c (.bool false)), none, [160, 159]⟩,
    ⟨(some 162), .mov (.t 161), none, [161]⟩,
    ⟨(some 163), .mov (.t 26), (some (162, true)), [26]⟩,
    ⟨(some 164), .pick (.t 162) (.t 163) (.c (.bool false)), none, [163, 162]⟩,
    ⟨(some 165), .mov (.t 164), none, [164]⟩,
    ⟨(some 166), .mov (.t 25), (some (165, true)), [25]⟩,
    ⟨(some 167), .build [.int .i64 0, .int .i32 0] [(0, 1, (.c (.int .i64 0))), (1, 1, (.c (.int .i32 97)))], (some (165, true)), []⟩,
    ⟨(some 168), .build [.int .i64 0, .int .i32 0] [(0, 1, (.c (.int .i64 1))), (1, 1, (.c (.int .i32 8364)))], (some (165, true)), []⟩,
    ⟨(some 169), .build [.int .i64 0, .int .i32 0] [(0, 1, (.c (.int .i64 4))), (1, 1, (.c (.int .i32 128512)))], (some (165, true)), []⟩,
    ⟨(some 170), .buildSlice 2 3 (List.replicate 6 (.junk)) [(0, 2, (.t 167)), (2, 2, (.t 168)), (4, 2, (.t 169))], (some (165, true)), [167, 168, 169]⟩,
    ⟨(some 171), .call (.c (.func (.func 43) [] [])) [(.t 166), (.t 170)], (some (165, true)), [166, 170]⟩,
    ⟨(some 172), .pick (.t 165) (.t 171) (.c (.bool false)), none, [171, 165]⟩,
    ⟨(some 0), .mov (.t 172), none, [172]⟩])
  (.ret))))))))))))))), 173, [.tmp 0]⟩
theorem f10_ok : compF Try.prog Try.f10 [⟨0, [], [], [[0]]⟩, ⟨0, [], [], [[], [27]]⟩, ⟨0, [], [], [[28]]⟩, ⟨0, [], [], [[28], [29]]⟩, ⟨0, [], [], [[]]⟩, ⟨0, [false, true, true, false, false, false, false, false, false, false, false, false, false, false, false, false, false, false, false, false, false, false, false, false, false, false, false, false, false, false, false, false, false, false, false, false, false, false, false, false, false, false, false, false, false, false, false, false, false, false, false, false, false, false, false, false, false, false, false, false, false, false, false, false, false, false, false, false, false, false, false, false, false, false, false, false, false, false, false, false, false, false, false, false, false, false, false, false, false, false, false, false, false, false, false, false, false, false, false, false, false, false, false, false, false, false, false, false, false, false, false, false, false, false, false, false, false, false, false, false, false, false, false, false, false, false, false, false, false, false, false, false, false, false, false, false, false, false, false, false, false, false, false, false, false, false, false, false, false, false, false, false, false, false, false, false, false, false, false, false, false, false, false, false, false, false, false, false, false, false, false, false, false], [true, false, false, false, false, false, false, false, false, false, false, false, false, false, false, false, false, false, false, false, false, false, false, false, false, false, false, false, false, false, false, false, false, false, false, false, false, false, false, false, false, false, false, false, false, false, false, false, false, false, false, false, false, false, false, false, false, false, false, false, false, false, false, false, false, false, false, false, false, false, false, false, false, false, false, false, false, false, false, false, false, false, false, false, false, false, false, false, false, false, false, false, false, false, false, false, false, false, false, false, false, false, false, false, false, false, false, false, false, false, false, false, false, false, false, false, false, false, false, false, false, false, false, false, false, false, false, false, false, false, false, false, false, false, false, false, false, false, false, false, false, false, false, false, false, false, false, false, false, false, false, false, false, false, false, false, false, false, false, false, false, false, false, false, false, false, false, false, false, false, false, false, false], []⟩, ⟨0, [], [], [[], [], [31], [32, 30]]⟩, ⟨0, [], [], [[33], [], [37, 36], [38], [39], [40], [], [], [43, 42], [44], [45], [46], [47, 41]]⟩, ⟨0, [], [], [[48]]⟩, ⟨0, [], [], [[48, 2], [34], [35]]⟩, ⟨0, [], [], [[33], [49]]⟩, ⟨0, [], [], [[], [51], [52], [], [50], [53, 4], [54]]⟩, ⟨0, [], [], [[], [56], [57], [], [55], [58, 6], [59]]⟩, ⟨0, [], [], [[], [61], [62], [63], [], [60], [64, 8], [65]]⟩, ⟨0, [], [], [[], [67], [], [], [66], [68, 10], [69, 11], [70]]⟩, ⟨0, [], [], [[], [72], [], [], [71], [73, 13], [74, 14], [75]]⟩, ⟨0, [], [], [[], [77], [], [], [76], [78, 16], [79, 17], [80]]⟩, ⟨0, [], [], [[], [82], [], [], [81], [83], [84], [85]]⟩, ⟨0, [], [], [[], [87], [], [], [86], [88], [89], [90]]⟩, ⟨0, [], [], [[], [92], [], [91], [93], [94]]⟩, ⟨0, [], [], [[5], [95], [96], [7], [98], [99, 97], [100], [9], [102], [103, 101], [104], [], [106], [107], [108, 105], [109], [3], [111], [112], [113, 110], [114], [], [116], [117, 115], [118], [12], [120], [121, 119], [122], [15], [124], [125, 123], [126], [18], [128], [129, 127], [130], [21], [132], [133, 131], [134], [20], [136], [137, 135], [138], [19], [140], [141, 139], [142], [24], [144], [145, 143], [146], [23], [148], [149, 147], [150], [22], [152], [153, 151], [154], [], [156], [157, 155], [158], [], [160, 159], [161], [26], [163, 162], [164], [25], [], [], [], [167, 168, 169], [166, 170], [171, 165], [172]]⟩] = some f10 := by kernel_rfl

/-! 11: polyglot/polyglotlaw03.UstringCalls -/
def f11 : AFn := ⟨.seq (.ops [⟨(some 4), .mov (.c (.bool false)), none, [4]⟩])
  (.seq (.seq (.ops [⟨(some 27), .call (.c (.func (.func 16) [] [])) [], none, []⟩,
    ⟨(some 28), .not (.t 27), none, [27]⟩])
  (.cond (.t 28)
   (.seq (.ops [⟨(some 4), .mov (.c (.bool false)), none, [28]⟩])
   (.ret))
   (.skip)))
  (.seq (.seq (.ops [⟨(some 29), .mov (.t 0), none, [28]⟩,
    ⟨(some 30), .lenS (.t 29), none, [29]⟩,
    ⟨(some 31), .bin .gtr .none (.t 30) (.c (.int .i64 70000)), none, [30]⟩,
    ⟨(some 32), .mov (.t 31), none, [31]⟩,
    ⟨(some 33), .mov (.t 1), (some (32, false)), []⟩,
    ⟨(some 34), .lenS (.t 33), (some (32, false)), [33]⟩,
    ⟨(some 35), .bin .gtr .none (.t 34) (.c (.int .i64 70000)), (some (32, false)), [34]⟩,
    ⟨(some 36), .pick (.t 32) (.c (.bool true)) (.t 35), none, [35, 32]⟩])
  (.cond (.t 36)
   (.seq (.ops [⟨(some 4), .mov (.c (.bool true)), none, [36]⟩])
   (.ret))
   (.skip)))
  (.seq (.ops [⟨(some 38), .mov (.t 0), none, [36]⟩,
    ⟨(some 39), .call (.c (.func (.func 38) [] [])) [(.t 38)], none, [38]⟩,
    ⟨(some 37), .mov (.t 39), none, [39]⟩,
    ⟨(some 40), .extract (.t 37) 0, none, []⟩,
    ⟨(some 41), .extract (.t 37) 1, none, [37]⟩,
    ⟨(some 5), .mov (.t 40), none, [40]⟩,
    ⟨(some 6), .mov (.t 41), none, [41]⟩])
  (.seq (.ops [⟨(some 43), .mov (.t 0), none, []⟩,
    ⟨(some 44), .call (.c (.func (.func 44) [] [])) [(.t 43)], none, [43]⟩,
    ⟨(some 42), .mov (.t 44), none, [44]⟩,
    ⟨(some 45), .extract (.t 42) 0, none, []⟩,
    ⟨(some 46), .extract (.t 42) 1, none, [42]⟩,
    ⟨(some 7), .mov (.t 45), none, [45]⟩,
    ⟨(some 8), .mov (.t 46), none, [46]⟩])
  (.seq (.ops [⟨(some 48), .mov (.t 0), none, []⟩,
    ⟨(some 49), .call (.c (.func (.func 40) [] [])) [(.t 48)], none, [48]⟩,
    ⟨(some 47), .mov (.t 49), none, [49]⟩,
    ⟨(some 50), .extract (.t 47) 0, none, []⟩,
    ⟨(some 51), .extract (.t 47) 1, none, [47]⟩,
    ⟨(some 9), .mov (.t 50), none, [50]⟩,
    ⟨(some 10), .mov (.t 51), none, [51]⟩])
  (.seq (.ops [⟨(some 53), .mov (.t 0), none, []⟩,
    ⟨(some 54), .call (.c (.func (.func 45) [] [])) [(.t 53)], none, [53]⟩,
    ⟨(some 52), .mov (.t 54), none, [54]⟩,
    ⟨(some 55), .extract (.t 52) 0, none, []⟩,
    ⟨(some 56), .extract (.t 52) 1, none, [52]⟩,
    ⟨(some 11), .mov (.t 55), none, [55]⟩,
    ⟨(some 12), .mov (.t 56), none, [56]⟩])
  (.seq (.ops [⟨(some 58), .mov (.t 1), none, []⟩,
    ⟨(some 59), .call (.c (.func (.func 39) [] [])) [(.t 58)], none, [58]⟩,
    ⟨(some 57), .mov (.t 59), none, [59]⟩,
    ⟨(some 60), .extract (.t 57) 0, none, []⟩,
    ⟨(some 61), .extract (.t 57) 1, none, []⟩,
    ⟨(some 62), .extract (.t 57) 2, none, [57]⟩,
    ⟨(some 13), .mov (.t 60), none, [60]⟩,
    ⟨(some 14), .mov (.t 61), none, [61]⟩,
    ⟨(some 15), .mov (.t 62), none, [62]⟩])
  (.seq (.ops [⟨(some 64), .mov (.t 1), none, []⟩,
    ⟨(some 65), .call (.c (.func (.func 46) [] [])) [(.t 64)], none, [64]⟩,
    ⟨(some 63), .mov (.t 65), none, [65]⟩,
    ⟨(some 66), .extract (.t 63) 0, none, []⟩,
    ⟨(some 67), .extract (.t 63) 1, none, []⟩,
    ⟨(some 68), .extract (.t 63) 2, none, [63]⟩,
    ⟨(some 16), .mov (.t 66), none, [66]⟩,
    ⟨(some 17), .mov (.t 67), none, [67]⟩,
    ⟨(some 18), .mov (.t 68), none, [68]⟩])
  (.seq (.ops [⟨(some 70), .mov (.t 1), none, []⟩,
    ⟨(some 71), .call (.c (.func (.func 41) [] [])) [(.t 70)], none, [70]⟩,
    ⟨(some 69), .mov (.t 71), none, [71]⟩,
    ⟨(some 72), .extract (.t 69) 0, none, []⟩,
    ⟨(some 73), .extract (.t 69) 1, none, []⟩,
    ⟨(some 74), .extract (.t 69) 2, none, [69]⟩,
    ⟨(some 19), .mov (.t 72), none, [72]⟩,
    ⟨(some 20), .mov (.t 73), none, [73]⟩,
    ⟨(some 21), .mov (.t 74), none, [74]⟩])
  (.seq (.ops [⟨(some 76), .mov (.t 1), none, [1]⟩,
    ⟨(some 77), .call (.c (.func (.func 47) [] [])) [(.t 76)], none, [76]⟩,
    ⟨(some 75), .mov (.t 77), none, [77]⟩,
    ⟨(some 78), .extract (.t 75) 0, none, []⟩,
    ⟨(some 79), .extract (.t 75) 1, none, []⟩,
    ⟨(some 80), .extract (.t 75) 2, none, [75]⟩,
    ⟨(some 22), .mov (.t 78), none, [78]⟩,
    ⟨(some 23), .mov (.t 79), none, [79]⟩,
    ⟨(some 24), .mov (.t 80), none, [80]⟩])
  (.seq (.ops [⟨(some 82), .mov (.t 0), none, []⟩,
    ⟨(some 83), .call (.c (.func (.func 20) [] [])) [(.t 82)], none, [82]⟩,
    ⟨(some 81), .mov (.t 83), none, [83]⟩,
    ⟨(some 84), .extract (.t 81) 0, none, []⟩,
    ⟨(some 85), .extract (.t 81) 1, none, [81]⟩,
    ⟨(some 25), .mov (.t 84), none, [84]⟩,
    ⟨(some 26), .mov (.t 85), none, [85]⟩])
  (.seq (.ops [⟨(some 86), .mov (.t 5), none, [5]⟩,
    ⟨(some 87), .mov (.t 7), none, [7]⟩,
    ⟨(some 88), .bin .eql .none (.t 86) (.t 87), none, [87, 86]⟩,
    ⟨(some 89), .mov (.t 88), none, [88]⟩,
    ⟨(some 90), .mov (.t 6), (some (89, true)), [6]⟩,
    ⟨(some 91), .mov (.t 8), (some (89, true)), [8]⟩,
    ⟨(some 92), .bin .eql .none (.t 90) (.t 91), (some (89, true)), [91, 90]⟩,
    ⟨(some 93), .pick (.t 89) (.t 92) (.c (.bool false)), none, [92, 89]⟩,
    ⟨(some 94), .mov (.t 93), none, [93]⟩,
    ⟨(some 95), .mov (.t 9), (some (94, true)), [9]⟩,
    ⟨(some 96), .mov (.t 11), (some (94, true)), [11]⟩,
    ⟨(some 97), .bin .eql .none (.t 95) (.t 96), (some (94, true)), [96, 95]⟩,
    ⟨(some 98), .pick (.t 94) (.t 97) (.c (.bool false)), none, [97, 94]⟩,
    ⟨(some 99), .mov (.t 98), none, [98]⟩,
    ⟨(some 100), .mov (.t 10), (some (99, true)), [10]⟩,
    ⟨(some 101), .mov (.t 12), (some (99, true)), [12]⟩,
    ⟨(some 102), .bin .eql .none (.t 100) (.t 101), (some (99, true)), [101, 100]⟩,
    ⟨(some 103), .pick (.t 99) (.t 102) (.c (.bool false)), none, [102, 99]⟩,
    ⟨(some 104), .mov (.t 103), none, [103]⟩,
    ⟨(some 105), .mov (.t 13), (some (104, true)), [13]⟩,
    ⟨(some 106), .mov (.t 16), (some (104, true)), [16]⟩,
    ⟨(some 107), .bin .eql .none (.t 105) (.t 106), (some (104, true)), [106, 105]⟩,
    ⟨(some 108), .pick (.t 104) (.t 107) (.c (.bool false)), none, [107, 104]⟩,
    ⟨(some 109), .mov (.t 108), none, [108]⟩,
    ⟨(some 110), .mov (.t 14), (some (109, true)), [14]⟩,
    ⟨(some 111), .mov (.t 17), (some (109, true)), [17]⟩,
    ⟨(some 112), .bin .eql .none (.t 110) (.t 111), (some (109, true)), [111, 110]⟩,
    ⟨(some 113), .pick (.t 109) (.t 112) (.c (.bool false)), none, [112, 109]⟩,
    ⟨(some 114), .mov (.t 113), none, [113]⟩,
    ⟨(some 115), .mov (.t 15), (some (114, true)), [15]⟩,
    ⟨(some 116), .mov (.t 18), (some (114, true)), [18]⟩,
    ⟨(some 117), .bin .eql .none (.t 115) (.t 116), (some (114, true)), [116, 115]⟩,
    ⟨(some 118), .pick (.t 114) (.t 117) (.c (.bool false)), none, [117, 114]⟩,
    ⟨(some 119), .mov (.t 118), none, [118]⟩,
    ⟨(some 120), .mov (.t 19), (some (119, true)), [19]⟩,
    ⟨(some 121), .mov (.t 22), (some (119, true)), [22]⟩,
    ⟨(some 122), .bin .eql .none (.t 120) (.t 121), (some (119, true)), [121, 120]⟩,
    ⟨(some 123), .pick (.t 119) (.t 122) (.c (.bool false)), none, [122, 119]⟩,
    ⟨(some 124), .mov (.t 123), none, [123]⟩,
    ⟨(some 125), .mov (.t 20), (some (124, true)), [20]⟩,
    ⟨(some 126), .mov (.t 23), (some (124, true)), [23]⟩,
    ⟨(some 127), .bin .eql .none (.t 125) (.t 126), (some (124, true)), [126, 125]⟩,
    ⟨(some 128), .pick (.t 124) (.t 127) (.c (.bool false)), none, [127, 124]⟩,
    ⟨(some 129), .mov (.t 128), none, [128]⟩,
    ⟨(some 130), .mov (.t 21), (some (129, true)), [21]⟩,
    ⟨(some 131), .mov (.t 24), (some (129, true)), [24]⟩,
    ⟨(some 132), .bin .eql .none (.t 130) (.t 131), (some (129, true)), [131, 130]⟩,
    ⟨(some 133), .pick (.t 129) (.t 132) (.c (.bool false)), none, [132, 129]⟩,
    ⟨(some 134), .mov (.t 133), none, [133]⟩,
    ⟨(some 135), .mov (.t 0), (some (134, true)), []⟩,
    ⟨(some 136), .call (.c (.func (.func 17) [] [])) [(.t 135)], (some (134, true)), [135]⟩,
    ⟨(some 137), .mov (.t 0), (some (134, true)), []⟩,
    ⟨(some 138), .call (.c (.func (.func 48) [] [])) [(.t 137)], (some (134, true)), [137]⟩,
    ⟨(some 139), .bin .eql .bool (.t 136) (.t 138), (some (134, true)), [138, 136]⟩,
    ⟨(some 140), .pick (.t 134) (.t 139) (.c (.bool false)), none, [139, 134]⟩,
    ⟨(some 141), .mov (.t 140), none, [140]⟩,
    ⟨(some 142), .mov (.t 0), (some (141, true)), []⟩,
    ⟨(some 143), .call (.c (.func (.func 19) [] [])) [(.t 142)], (some (141, true)), [142]⟩,
    ⟨(some 144), .mov (.t 0), (some (141, true)), []⟩,
    ⟨(some 145), .call (.c (.func (.func 49) [] [])) [(.t 144)], (some (141, true)), [144]⟩,
    ⟨(some 146), .bin .eql .none (.t 143) (.t 145), (some (141, true)), [145, 143]⟩,
    ⟨(some 147), .pick (.t 141) (.t 146) (.c (.bool false)), none, [146, 141]⟩,
    ⟨(some 148), .mov (.t 147), none, [147]⟩,
    ⟨(some 149), .mov (.t 0), (some (148, true)), []⟩,
    ⟨(some 150), .call (.c (.func (.func 18) [] [])) [(.t 149)], (some (148, true)), [149]⟩,
    ⟨(some 151), .mov (.t 0), (some (148, true)), []⟩,
    ⟨(some 152), .call (.c (.func (.func 50) [] [])) [(.t 151)], (some (148, true)), [151]⟩,
    ⟨(some 153), .bin .eql .none (.t 150) (.t 152), (some (148, true)), [152, 150]⟩,
    ⟨(some 154), .pick (.t 148) (.t 153) (.c (.bool false)), none, [153, 148]⟩,
    ⟨(some 155), .mov (.t 154), none, [154]⟩,
    ⟨(some 156), .mov (.t 26), (some (155, true)), [26]⟩,
    ⟨(some 157), .pick (.t 155) (.t 156) (.c (.bool false)), none, [156, 155]⟩,
    ⟨(some 158), .mov (.t 157), none, [157]⟩,
    ⟨(some 159), .mov (.t 25), (some (158, true)), [25]⟩,
    ⟨(some 160), .mov (.t 0), (some (158, true)), [0]⟩,
    ⟨(some 161), .call (.c (.func (.func 51) [] [])) [(.t 160)], (some (158, true)), [160]⟩,
    ⟨(some 162), .call (.c (.func (.func 43) [] [])) [(.t 159), (.t 161)], (some (158, true)), [159, 161]⟩,
    ⟨(some 163), .pick (.t 158) (.t 162) (.c (.bool false)), none, [162, 158]⟩,
    ⟨(some 4), .mov (.t 163), none, [163]⟩])
  (.ret))))))))))))), 164, [.tmp 4]⟩
theorem f11_ok : compF Try.prog Try.f11 [⟨0, [], [], [[4]]⟩, ⟨0, [], [], [[], [27]]⟩, ⟨0, [], [], [[28]]⟩, ⟨0, [], [], [[28], [29], [30], [31], [], [33], [34], [35, 32]]⟩, ⟨0, [], [], [[36]]⟩, ⟨0, [], [], [[36], [38], [39], [], [37], [40], [41]]⟩, ⟨0, [], [], [[], [43], [44], [], [42], [45], [46]]⟩, ⟨0, [], [], [[], [48], [49], [], [47], [50], [51]]⟩, ⟨0, [], [], [[], [53], [54], [], [52], [55], [56]]⟩, ⟨0, [], [], [[], [58], [59], [], [], [57], [60], [61], [62]]⟩, ⟨0, [], [], [[], [64], [65], [], [], [63], [66], [67], [68]]⟩, ⟨0, [], [], [[], [70], [71], [], [], [69], [72], [73], [74]]⟩, ⟨0, [], [], [[1], [76], [77], [], [], [75], [78], [79], [80]]⟩, ⟨0, [], [], [[], [82], [83], [], [81], [84], [85]]⟩, ⟨0, [], [], [[5], [7], [87, 86], [88], [6], [8], [91, 90], [92, 89], [93], [9], [11], [96, 95], [97, 94], [98], [10], [12], [101, 100], [102, 99], [103], [13], [16], [106, 105], [107, 104], [108], [14], [17], [111, 110], [112, 109], [113], [15], [18], [116, 115], [117, 114], [118], [19], [22], [121, 120], [122, 119], [123], [20], [23], [126, 125], [127, 124], [128], [21], [24], [131, 130], [132, 129], [133], [], [135], [], [137], [138, 136], [139, 134], [140], [], [142], [], [144], [145, 143], [146, 141], [147], [], [149], [], [151], [152, 150], [153, 148], [154], [26], [156, 155], [157], [25], [0], [160], [159, 161], [162, 158], [163]]⟩] = some f11 := by kernel_rfl

/-! 12: polyglot/polyglotlaw01.lives -/
def f12 : AFn := ⟨.seq (.ops [⟨(some 0), .mov (.c (.bool false)), none, [0]⟩])
  (.seq (.ops [⟨(some 1), .call (.c (.func (.func 14) [] [])) [(.c (.int .u64 258)), (.c (.int .i64 2))], none, []⟩,
    ⟨(some 2), .bin .eql .none (.t 1) (.c (.str [1, 2])), none, [1]⟩,
    ⟨(some 3), .mov (.t 2), none, [2]⟩,
    ⟨(some 4), .call (.c (.func (.func 15) [] [])) [(.c (.str [1, 2]))], (some (3, true)), []⟩,
    ⟨(some 5), .bin .eql .none (.t 4) (.c (.int .u64 258)), (some (3, true)), [4]⟩,
    ⟨(some 6), .pick (.t 3) (.t 5) (.c (.bool false)), none, [5, 3]⟩,
    ⟨(some 0), .mov (.t 6), none, [6]⟩])
  (.ret)), 7, [.tmp 0]⟩
theorem f12_ok : compF Try.prog Try.f12 [⟨0, [], [], [[0]]⟩, ⟨0, [], [], [[], [1], [2], [], [4], [5, 3], [6]]⟩] = some f12 := by kernel_rfl

/-! 13: polyglot/polyglotkit.Pick -/
def f13 : AFn := ⟨.seq (.ops [⟨(some 4), .mov (.c (.int .i64 0)), none, [4]⟩])
  (.seq (.seq (.ops [⟨(some 6), .mov (.t 1), none, []⟩,
    ⟨(some 7), .bin .lss .none (.t 6) (.c (.int .i64 1)), none, [6]⟩])
  (.cond (.t 7)
   (.seq (.ops [⟨(some 4), .mov (.c (.int .i64 0)), none, [7]⟩])
   (.ret))
   (.skip)))
  (.seq (.ops [⟨(some 8), .mov (.t 0), none, [7, 0]⟩,
    ⟨(some 9), .mov (.t 1), none, []⟩,
    ⟨(some 10), .bin .rem .none (.t 8) (.t 9), none, [9, 8]⟩,
    ⟨(some 5), .mov (.t 10), none, [10]⟩])
  (.seq (.seq (.ops [⟨(some 11), .mov (.t 5), none, []⟩,
    ⟨(some 12), .bin .lss .none (.t 11) (.c (.int .i64 0)), none, [11]⟩])
  (.cond (.t 12)
   (.ops [⟨(some 13), .mov (.t 5), none, [12, 5]⟩,
     ⟨(some 14), .mov (.t 1), none, [1]⟩,
     ⟨(some 15), .bin .add .none (.t 13) (.t 14), none, [14, 13]⟩,
     ⟨(some 5), .mov (.t 15), none, [15]⟩])
   (.skip)))
  (.seq (.ops [⟨(some 16), .mov (.t 5), none, [12, 5]⟩,
    ⟨(some 4), .mov (.t 16), none, [16]⟩])
  (.ret))))), 17, [.tmp 4]⟩
theorem f13_ok : compF Try.prog Try.f13 [⟨0, [], [], [[4]]⟩, ⟨0, [], [], [[], [6]]⟩, ⟨0, [], [], [[7]]⟩, ⟨0, [], [], [[7, 0], [], [9, 8], [10]]⟩, ⟨0, [], [], [[], [11]]⟩, ⟨0, [], [], [[12, 5], [1], [14, 13], [15]]⟩, ⟨0, [], [], [[12, 5], [16]]⟩] = some f13 := by kernel_rfl

/-! 14: polyglot/octet.Put -/
def f14_M0 : List Bool := [true, true, false, false, false, true, false, false, false, false, false, false, false, true, true, false, false, false, false, false, false, false, false, false, false, false, false, false, false, false, false, false, false, false]
def f14_O0 : List Bool := [false, false, false, false, false, true, false, false, false, false, false, false, false, false, false, false, false, false, false, false, false, false, false, false, false, false, false, false, false, false, false, false, false, false]
def f14_L0 : AC := .seq (.ops [⟨(some 15), .bin .lss .none (.t 14) (.t 13), none, []⟩])
  (.seq (.cond (.t 15)
   (.skip)
   (.exit 0))
  (.seq (.block 1 (.seq (.ops [⟨(some 16), .mov (.t 14), none, [15]⟩,
     ⟨(some 6), .mov (.t 16), none, [16]⟩])
   (.seq (.ops [⟨(some 17), .mov (.t 6), none, []⟩,
     ⟨(some 18), .bin .lss .none (.t 17) (.c (.int .i64 8)), none, [17]⟩])
   (.cond (.t 18)
    (.ops [⟨(some 19), .mov (.t 5), none, [18]⟩,
      ⟨(some 20), .mov (.t 1), none, []⟩,
      ⟨(some 21), .bin .sub .none (.t 20) (.c (.int .i64 1)), none, [20]⟩,
      ⟨(some 22), .mov (.t 6), none, []⟩,
      ⟨(some 23), .bin .sub .none (.t 21) (.t 22), none, [22, 21]⟩,
      ⟨(some 24), .mov (.t 0), none, []⟩,
      ⟨(some 25), .mov (.t 6), none, [6]⟩,
      ⟨(some 26), .bin .mul .none (.c (.int .i64 8)) (.t 25), none, [25]⟩,
      ⟨(some 27), .conv .u64 (.t 26), none, [26]⟩,
      ⟨(some 28), .bin .shr .none (.t 24) (.t 27), none, [27, 24]⟩,
      ⟨(some 29), .conv .u8 (.t 28), none, [28]⟩,
      ⟨(some 30), .indexAddr 1 (.t 19) (.t 23), none, [23, 19]⟩,
      ⟨none, .store 1 (.t 30) (.t 29), none, [29, 30]⟩])
    (.skip)))))
  (.ops [⟨(some 31), .bin .add .none (.t 14) (.c (.int .i64 1)), none, [18, 14]⟩,
    ⟨(some 14), .mov (.t 31), none, [31]⟩])))
/-- live: [0, 1, 5, 13, 14] -/
def f14_S0 (x0 x1 x5 x13 x14 : KV) : List KV := [x0, x1, .junk, .junk, .junk, x5, .junk, .junk, .junk, .junk, .junk, .junk, .junk, x13, x14, .junk, .junk, .junk, .junk, .junk, .junk, .junk, .junk, .junk, .junk, .junk, .junk, .junk, .junk, .junk, .junk, .junk, .junk, .junk]
/-- live: [5] -/
def f14_E0 (x5 : KV) : List KV := [.junk, .junk, .junk, .junk, .junk, x5, .junk, .junk, .junk, .junk, .junk, .junk, .junk, .junk, .junk, .junk, .junk, .junk, .junk, .junk, .junk, .junk, .junk, .junk, .junk, .junk, .junk, .junk, .junk, .junk, .junk, .junk, .junk, .junk]
def f14_D0 {α : Type} (fr : List KV) (no : α) (yes : KV → KV → KV → KV → KV → α) : α :=
  match pickM f14_M0 fr with
  | some [x0, x1, x5, x13, x14] => yes x0 x1 x5 x13 x14
  | _ => no
theorem f14_D0_inv {β : Type} {fr : List KV} {yes : KV → KV → KV → KV → KV → Option β} {r : β} (h : f14_D0 fr none yes = some r) : ∃ x0 x1 x5 x13 x14, maskK f14_M0 fr = f14_S0 x0 x1 x5 x13 x14 ∧ yes x0 x1 x5 x13 x14 = some r := by
  unfold f14_D0 at h
  split at h
  · rename_i hp
    exact ⟨_, _, _, _, _, pickM_mask _ _ _ hp, h⟩
  · cases h
def f14 : AFn := ⟨.seq (.ops [⟨(some 4), .mov (.c (.str [])), none, [4]⟩])
  (.seq (.seq (.ops [⟨(some 7), .mov (.t 1), none, []⟩,
    ⟨(some 8), .bin .leq .none (.t 7) (.c (.int .i64 0)), none, [7]⟩])
  (.cond (.t 8)
   (.seq (.ops [⟨(some 4), .mov (.c (.str [])), none, [8]⟩])
   (.ret))
   (.skip)))
  (.seq (.ops [⟨(some 9), .mov (.t 1), none, [8, 1]⟩,
    ⟨(some 10), .min (.t 9) (.c (.int .i64 16)), none, [9]⟩,
    ⟨(some 1), .mov (.t 10), none, [10]⟩])
  (.seq (.ops [⟨(some 11), .mov (.t 1), none, []⟩,
    ⟨(some 12), .mkslice 1 1 [.int .u8 0] (.t 11) (.t 11), none, [11]⟩,
    ⟨(some 5), .mov (.t 12), none, [12]⟩])
  (.seq (.seq (.ops [⟨(some 13), .mov (.t 1), none, []⟩,
    ⟨(some 14), .mov (.c (.int .i64 0)), none, []⟩])
  (.block 0 (.loop 0 f14_M0 f14_O0 f14_L0)))
  (.seq (.ops [⟨(some 32), .mov (.t 5), none, [15, 5]⟩,
    ⟨(some 33), .b2s (.t 32), none, [32]⟩,
    ⟨(some 4), .mov (.t 33), none, [33]⟩])
  (.ret)))))), 34, [.tmp 4]⟩
theorem f14_ok : compF Try.prog Try.f14 [⟨0, [], [], [[4]]⟩, ⟨0, [], [], [[], [7]]⟩, ⟨0, [], [], [[8]]⟩, ⟨0, [], [], [[8, 1], [9], [10]]⟩, ⟨0, [], [], [[], [11], [12]]⟩, ⟨0, [], [], [[], []]⟩, ⟨0, [true, true, false, false, false, true, false, false, false, false, false, false, false, true, true, false, false, false, false, false, false, false, false, false, false, false, false, false, false, false, false, false, false, false], [false, false, false, false, false, true, false, false, false, false, false, false, false, false, false, false, false, false, false, false, false, false, false, false, false, false, false, false, false, false, false, false, false, false], []⟩, ⟨0, [], [], [[]]⟩, ⟨0, [], [], [[15], [16]]⟩, ⟨0, [], [], [[], [17]]⟩, ⟨0, [], [], [[18], [], [20], [], [22, 21], [], [6], [25], [26], [27, 24], [28], [23, 19], [29, 30]]⟩, ⟨0, [], [], [[18, 14], [31]]⟩, ⟨0, [], [], [[15, 5], [32], [33]]⟩] = some f14 := by kernel_rfl

/-! 15: polyglot/octet.Get -/
def f15_M0 : List Bool := [true, false, false, true, false, false, false, false, false, false, false, false, false, false, true, true, false, false, false, false, false, false, false, false, false, false, false]
def f15_O0 : List Bool := [false, false, false, true, false, false, false, false, false, false, false, false, false, false, false, false, false, false, false, false, false, false, false, false, false, false, false]
def f15_L0 : AC := .seq (.ops [⟨(some 16), .bin .lss .none (.t 15) (.t 14), none, []⟩])
  (.seq (.cond (.t 16)
   (.skip)
   (.exit 0))
  (.seq (.block 1 (.seq (.ops [⟨(some 17), .mov (.t 15), none, [16]⟩,
     ⟨(some 4), .mov (.t 17), none, [17]⟩])
   (.ops [⟨(some 18), .mov (.t 3), none, [3]⟩,
     ⟨(some 19), .bin .shl .none (.t 18) (.c (.int .u64 8)), none, [18]⟩,
     ⟨(some 20), .mov (.t 0), none, []⟩,
     ⟨(some 21), .mov (.t 4), none, [4]⟩,
     ⟨(some 22), .indexStr (.t 20) (.t 21), none, [21, 20]⟩,
     ⟨(some 23), .conv .u64 (.t 22), none, [22]⟩,
     ⟨(some 24), .bin .or .none (.t 19) (.t 23), none, [23, 19]⟩,
     ⟨(some 3), .mov (.t 24), none, [24]⟩])))
  (.ops [⟨(some 25), .bin .add .none (.t 15) (.c (.int .i64 1)), none, [15]⟩,
    ⟨(some 15), .mov (.t 25), none, [25]⟩])))
/-- live: [0, 3, 14, 15] -/
def f15_S0 (x0 x3 x14 x15 : KV) : List KV := [x0, .junk, .junk, x3, .junk, .junk, .junk, .junk, .junk, .junk, .junk, .junk, .junk, .junk, x14, x15, .junk, .junk, .junk, .junk, .junk, .junk, .junk, .junk, .junk, .junk, .junk]
/-- live: [3] -/
def f15_E0 (x3 : KV) : List KV := [.junk, .junk, .junk, x3, .junk, .junk, .junk, .junk, .junk, .junk, .junk, .junk, .junk, .junk, .junk, .junk, .junk, .junk, .junk, .junk, .junk, .junk, .junk, .junk, .junk, .junk, .junk]
def f15_D0 {α : Type} (fr : List KV) (no : α) (yes : KV → KV → KV → KV → α) : α :=
  match pickM f15_M0 fr with
  | some [x0, x3, x14, x15] => yes x0 x3 x14 x15
  | _ => no
theorem f15_D0_inv {β : Type} {fr : List KV} {yes : KV → KV → KV → KV → Option β} {r : β} (h : f15_D0 fr none yes = some r) : ∃ x0 x3 x14 x15, maskK f15_M0 fr = f15_S0 x0 x3 x14 x15 ∧ yes x0 x3 x14 x15 = some r := by
  unfold f15_D0 at h
  split at h
  · rename_i hp
    exact ⟨_, _, _, _, pickM_mask _ _ _ hp, h⟩
  · cases h
def f15 : AFn := ⟨.seq (.ops [⟨(some 2), .mov (.c (.int .u64 0)), none, [2]⟩])
  (.seq (.seq (.ops [⟨(some 5), .mov (.t 0), none, []⟩,
    ⟨(some 6), .lenS (.t 5), none, [5]⟩,
    ⟨(some 7), .bin .gtr .none (.t 6) (.c (.int .i64 8)), none, [6]⟩])
  (.cond (.t 7)
   (.ops [⟨(some 8), .mov (.t 0), none, [7]⟩,
     ⟨(some 9), .mov (.t 0), none, [0]⟩,
     ⟨(some 10), .lenS (.t 9), none, [9]⟩,
     ⟨(some 11), .bin .sub .none (.t 10) (.c (.int .i64 8)), none, [10]⟩,
     ⟨(some 12), .substr (.t 8) (some (.t 11)) none, none, [11, 8]⟩,
     ⟨(some 0), .mov (.t 12), none, [12]⟩])
   (.skip)))
  (.seq (.ops [⟨(some 3), .mov (.c (.int .u64 0)), none, [7]⟩])
  (.seq (.seq (.ops [⟨(some 13), .mov (.t 0), none, []⟩,
    ⟨(some 14), .lenS (.t 13), none, [13]⟩,
    ⟨(some 15), .mov (.c (.int .i64 0)), none, []⟩])
  (.block 0 (.loop 0 f15_M0 f15_O0 f15_L0)))
  (.seq (.ops [⟨(some 26), .mov (.t 3), none, [16, 3]⟩,
    ⟨(some 2), .mov (.t 26), none, [26]⟩])
  (.ret))))), 27, [.tmp 2]⟩
theorem f15_ok : compF Try.prog Try.f15 [⟨0, [], [], [[2]]⟩, ⟨0, [], [], [[], [5], [6]]⟩, ⟨0, [], [], [[7], [0], [9], [10], [11, 8], [12]]⟩, ⟨0, [], [], [[7]]⟩, ⟨0, [], [], [[], [13], []]⟩, ⟨0, [true, false, false, true, false, false, false, false, false, false, false, false, false, false, true, true, false, false, false, false, false, false, false, false, false, false, false], [false, false, false, true, false, false, false, false, false, false, false, false, false, false, false, false, false, false, false, false, false, false, false, false, false, false, false], []⟩, ⟨0, [], [], [[]]⟩, ⟨0, [], [], [[16], [17]]⟩, ⟨0, [], [], [[3], [18], [], [4], [21, 20], [22], [23, 19], [24]]⟩, ⟨0, [], [], [[15], [25]]⟩, ⟨0, [], [], [[16, 3], [26]]⟩] = some f15 := by kernel_rfl

/-! 16: polyglot/polyglotlaw03.lives -/
def f16 : AFn := ⟨.seq (.ops [⟨(some 0), .mov (.c (.bool false)), none, [0]⟩])
  (.seq (.ops [⟨(some 6), .call (.c (.func (.func 38) [] [])) [(.c (.str [65]))], none, []⟩,
    ⟨(some 5), .mov (.t 6), none, [6]⟩,
    ⟨(some 7), .extract (.t 5) 0, none, []⟩,
    ⟨(some 8), .extract (.t 5) 1, none, [5]⟩,
    ⟨(some 1), .mov (.t 7), none, [7]⟩,
    ⟨(some 2), .mov (.t 8), none, [8]⟩])
  (.seq (.ops [⟨(some 10), .call (.c (.func (.func 38) [] [])) [(.c (.str [192, 128]))], none, []⟩,
    ⟨(some 9), .mov (.t 10), none, [10]⟩,
    ⟨(some 11), .extract (.t 9) 0, none, []⟩,
    ⟨(some 12), .extract (.t 9) 1, none, [9]⟩,
    ⟨(some 3), .mov (.t 11), none, [11, 3]⟩,
    ⟨(some 4), .mov (.t 12), none, [12]⟩])
  (.seq (.ops [⟨(some 13), .mov (.t 2), none, [2]⟩,
    ⟨(some 14), .bin .eql .none (.t 13) (.c (.int .i64 0)), none, [13]⟩,
    ⟨(some 15), .mov (.t 14), none, [14]⟩,
    ⟨(some 16), .mov (.t 1), (some (15, true)), [1]⟩,
    ⟨(some 17), .bin .eql .none (.t 16) (.c (.str [0, 1, 65])), (some (15, true)), [16]⟩,
    ⟨(some 18), .pick (.t 15) (.t 17) (.c (.bool false)), none, [17, 15]⟩,
    ⟨(some 19), .mov (.t 18), none, [18]⟩,
    ⟨(some 20), .mov (.t 4), (some (19, true)), [4]⟩,
    ⟨(some 21), .bin .eql .none (.t 20) (.c (.int .i64 6)), (some (19, true)), [20]⟩,
    ⟨(some 22), .pick (.t 19) (.t 21) (.c (.bool false)), none, [21, 19]⟩,
    ⟨(some 0), .mov (.t 22), none, [22]⟩])
  (.ret)))), 23, [.tmp 0]⟩
theorem f16_ok : compF Try.prog Try.f16 [⟨0, [], [], [[0]]⟩, ⟨0, [], [], [[], [6], [], [5], [7], [8]]⟩, ⟨0, [], [], [[], [10], [], [9], [11, 3], [12]]⟩, ⟨0, [], [], [[2], [13], [14], [1], [16], [17, 15], [18], [4], [20], [21, 19], [22]]⟩] = some f16 := by kernel_rfl

/-! 17: polyglot/ustring.Valid -/
def f17 : AFn := ⟨.seq (.ops [⟨(some 2), .mov (.c (.bool false)), none, [2]⟩])
  (.seq (.ops [⟨(some 3), .mov (.t 0), none, []⟩,
    ⟨(some 4), .lenS (.t 3), none, [3]⟩,
    ⟨(some 5), .bin .leq .none (.t 4) (.c (.int .i64 65535)), none, [4]⟩,
    ⟨(some 6), .mov (.t 5), none, [5]⟩,
    ⟨(some 7), .mov (.t 0), (some (6, true)), [0]⟩,
    ⟨(some 8), .call (.c (.func (.func 19) [] [])) [(.t 7)], (some (6, true)), [7]⟩,
    ⟨(some 9), .bin .eql .none (.t 8) (.c (.int .i64 (-1))), (some (6, true)), [8]⟩,
    ⟨(some 10), .pick (.t 6) (.t 9) (.c (.bool false)), none, [9, 6]⟩,
    ⟨(some 2), .mov (.t 10), none, [10]⟩])
  (.ret)), 11, [.tmp 2]⟩
theorem f17_ok : compF Try.prog Try.f17 [⟨0, [], [], [[2]]⟩, ⟨0, [], [], [[], [3], [4], [5], [0], [7], [8], [9, 6], [10]]⟩] = some f17 := by kernel_rfl

/-! 18: polyglot/ustring.Count -/
def f18_M0 : List Bool := [false, false, false, true, false, false, false, false, true, false, false, false, false, false]
def f18_O0 : List Bool := [false, false, false, true, false, false, false, false, false, false, false, false, false, false]
def f18_L0 : AC := .seq (.ops [⟨(some 9), .next (.t 8), none, []⟩,
    ⟨(some 10), .extract (.t 9) 0, none, [9]⟩])
  (.seq (.cond (.t 10)
   (.skip)
   (.exit 0))
  (.block 1 (.ops [⟨(some 11), .mov (.t 3), none, [10, 3]⟩,
     ⟨(some 12), .bin .add .none (.t 11) (.c (.int .i64 1)), none, [11]⟩,
     ⟨(some 3), .mov (.t 12), none, [12]⟩])))
/-- live: [3, 8] -/
def f18_S0 (x3 x8 : KV) : List KV := [.junk, .junk, .junk, x3, .junk, .junk, .junk, .junk, x8, .junk, .junk, .junk, .junk, .junk]
/-- live: [3] -/
def f18_E0 (x3 : KV) : List KV := [.junk, .junk, .junk, x3, .junk, .junk, .junk, .junk, .junk, .junk, .junk, .junk, .junk, .junk]
def f18_D0 {α : Type} (fr : List KV) (no : α) (yes : KV → KV → α) : α :=
  match pickM f18_M0 fr with
  | some [x3, x8] => yes x3 x8
  | _ => no
theorem f18_D0_inv {β : Type} {fr : List KV} {yes : KV → KV → Option β} {r : β} (h : f18_D0 fr none yes = some r) : ∃ x3 x8, maskK f18_M0 fr = f18_S0 x3 x8 ∧ yes x3 x8 = some r := by
  unfold f18_D0 at h
  split at h
  · rename_i hp
    exact ⟨_, _, pickM_mask _ _ _ hp, h⟩
  · cases h
def f18 : AFn := ⟨.seq (.ops [⟨(some 2), .mov (.c (.int .i64 0)), none, [2]⟩])
  (.seq (.seq (.ops [⟨(some 4), .mov (.t 0), none, []⟩,
    ⟨(some 5), .call (.c (.func (.func 17) [] [])) [(.t 4)], none, [4]⟩,
    ⟨(some 6), .not (.t 5), none, [5]⟩])
  (.cond (.t 6)
   (.seq (.ops [⟨(some 2), .mov (.c (.int .i64 0)), none, [6]⟩])
   (.ret))
   (.skip)))
  (.seq (.ops [⟨(some 3), .mov (.c (.int .i64 0)), none, [6]⟩])
  (.seq (.seq (.ops [⟨(some 7), .mov (.t 0), none, [0]⟩,
    ⟨(some 8), .range (.t 7), none, [7]⟩])
  (.block 0 (.loop 0 f18_M0 f18_O0 f18_L0)))
  (.seq (.ops [⟨(some 13), .mov (.t 3), none, [10, 3]⟩,
    ⟨(some 2), .mov (.t 13), none, [13]⟩])
  (.ret))))), 14, [.tmp 2]⟩
theorem f18_ok : compF Try.prog Try.f18 [⟨0, [], [], [[2]]⟩, ⟨0, [], [], [[], [4], [5]]⟩, ⟨0, [], [], [[6]]⟩, ⟨0, [], [], [[6]]⟩, ⟨0, [], [], [[0], [7]]⟩, ⟨0, [false, false, false, true, false, false, false, false, true, false, false, false, false, false], [false, false, false, true, false, false, false, false, false, false, false, false, false, false], []⟩, ⟨0, [], [], [[], [9]]⟩, ⟨0, [], [], [[10, 3], [11], [12]]⟩, ⟨0, [], [], [[10, 3], [13]]⟩] = some f18 := by kernel_rfl

/-! 19: polyglot/ustring.Bad -/
def f19_M0 : List Bool := [true, false, false, false, false, false, true, false, false, false, false, false, false, false, false, false, false, false, false, false, false, false, false, false, false]
def f19_O0 : List Bool := [false, false, true, false, false, false, false, false, false, false, false, false, false, false, false, false, false, false, false, false, false, false, false, false, false]
def f19_L0 : AC := .seq (.ops [⟨(some 7), .next (.t 6), none, []⟩,
    ⟨(some 8), .extract (.t 7) 0, none, []⟩])
  (.seq (.cond (.t 8)
   (.skip)
   (.exit 0))
  (.block 1 (.seq (.ops [⟨(some 9), .extract (.t 7) 1, none, [8]⟩,
     ⟨(some 10), .extract (.t 7) 2, none, [7]⟩,
     ⟨(some 3), .mov (.t 9), none, [9]⟩,
     ⟨(some 4), .mov (.t 10), none, [10]⟩])
   (.seq (.ops [⟨(some 11), .mov (.t 4), none, []⟩,
     ⟨(some 12), .bin .eql .none (.t 11) (.c (.int .i32 0)), none, [11]⟩,
     ⟨(some 13), .mov (.t 12), none, [12]⟩,
     ⟨(some 14), .mov (.t 4), (some (13, false)), [4]⟩,
     ⟨(some 15), .bin .eql .none (.t 14) (.c (.int .i32 65533)), (some (13, false)), [14]⟩,
     ⟨(some 16), .mov (.t 15), (some (13, false)), [15]⟩,
     ⟨(some 17), .mov (.t 0), (some (16, true)), []⟩,
     ⟨(some 18), .mov (.t 3), (some (16, true)), []⟩,
     ⟨(some 19), .substr (.t 17) (some (.t 18)) none, (some (16, true)), [18, 17]⟩,
     ⟨(some 20), .call (.c (.func (.func 52) [] [])) [(.t 19)], (some (16, true)), [19]⟩,
     ⟨(some 21), .not (.t 20), (some (16, true)), [20]⟩,
     ⟨(some 22), .pick (.t 16) (.t 21) (.c (.bool false)), (some (13, false)), [21, 16]⟩,
     ⟨(some 23), .pick (.t 13) (.c (.bool true)) (.t 22), none, [22, 13]⟩])
   (.cond (.t 23)
    (.seq (.ops [⟨(some 24), .mov (.t 3), none, [23, 3]⟩,
      ⟨(some 2), .mov (.t 24), none, [24]⟩])
    (.ret))
    (.skip))))))
/-- live: [0, 6] -/
def f19_S0 (x0 x6 : KV) : List KV := [x0, .junk, .junk, .junk, .junk, .junk, x6, .junk, .junk, .junk, .junk, .junk, .junk, .junk, .junk, .junk, .junk, .junk, .junk, .junk, .junk, .junk, .junk, .junk, .junk]
/-- live: [2] -/
def f19_E0 (x2 : KV) : List KV := [.junk, .junk, x2, .junk, .junk, .junk, .junk, .junk, .junk, .junk, .junk, .junk, .junk, .junk, .junk, .junk, .junk, .junk, .junk, .junk, .junk, .junk, .junk, .junk, .junk]
def f19_D0 {α : Type} (fr : List KV) (no : α) (yes : KV → KV → α) : α :=
  match pickM f19_M0 fr with
  | some [x0, x6] => yes x0 x6
  | _ => no
theorem f19_D0_inv {β : Type} {fr : List KV} {yes : KV → KV → Option β} {r : β} (h : f19_D0 fr none yes = some r) : ∃ x0 x6, maskK f19_M0 fr = f19_S0 x0 x6 ∧ yes x0 x6 = some r := by
  unfold f19_D0 at h
  split at h
  · rename_i hp
    exact ⟨_, _, pickM_mask _ _ _ hp, h⟩
  · cases h
def f19 : AFn := ⟨.seq (.ops [⟨(some 2), .mov (.c (.int .i64 0)), none, [2]⟩])
  (.seq (.seq (.ops [⟨(some 5), .mov (.t 0), none, []⟩,
    ⟨(some 6), .range (.t 5), none, [5]⟩])
  (.block 0 (.loop 0 f19_M0 f19_O0 f19_L0)))
  (.seq (.ops [⟨(some 2), .mov (.c (.int .i64 (-1))), none, [8]⟩])
  (.ret))), 25, [.tmp 2]⟩
theorem f19_ok : compF Try.prog Try.f19 [⟨0, [], [], [[2]]⟩, ⟨0, [], [], [[], [5]]⟩, ⟨0, [true, false, false, false, false, false, true, false, false, false, false, false, false, false, false, false, false, false, false, false, false, false, false, false, false], [false, false, true, false, false, false, false, false, false, false, false, false, false, false, false, false, false, false, false, false, false, false, false, false, false], []⟩, ⟨0, [], [], [[], []]⟩, ⟨0, [], [], [[8], [7], [9], [10]]⟩, ⟨0, [], [], [[], [11], [12], [4], [14], [15], [], [], [18, 17], [19], [20], [21, 16], [22, 13]]⟩, ⟨0, [], [], [[23, 3], [24]]⟩, ⟨0, [], [], [[8]]⟩] = some f19 := by kernel_rfl

/-! 20: polyglot/polyglotlaw03.runes -/
def f20_P0 : List Nat := [13, 14]
def f20_X0 : AC := .seq (.ops [⟨(some 6), .mov (.t 13), none, [13]⟩])
  (.ops [⟨(some 7), .mov (.t 14), none, [14]⟩])
def f20_Y0 : AC := .block 1 (.seq (.seq (.ops [⟨(some 15), .load1 (.t 5), none, []⟩,
     ⟨(some 16), .len (.t 15), none, [15]⟩,
     ⟨(some 17), .load1 (.t 1), none, [1]⟩,
     ⟨(some 18), .lenS (.t 17), none, [17]⟩,
     ⟨(some 19), .bin .gtr .none (.t 16) (.t 18), none, [18, 16]⟩])
   (.cond (.t 19)
    (.seq (.ops [⟨none, .store 1 (.t 2) (.c (.nilslice)), none, [19, 2]⟩,
      ⟨none, .store 1 (.t 3) (.c (.bool false)), none, [3]⟩])
    (.ret))
    (.skip)))
   (.ops [⟨(some 20), .load1 (.t 5), none, [19]⟩,
     ⟨(some 21), .mov (.t 6), none, [6]⟩,
     ⟨(some 22), .mov (.t 7), none, [7]⟩,
     ⟨(some 23), .build [.int .i64 0, .int .i32 0] [(0, 1, (.t 21)), (1, 1, (.t 22))], none, [21, 22]⟩,
     ⟨(some 24), .buildSlice 2 1 [.junk, .junk] [(0, 2, (.t 23))], none, [23]⟩,
     ⟨(some 25), .append 2 16 (.t 20) (.t 24), none, [24, 20]⟩,
     ⟨none, .store 1 (.t 5) (.t 25), none, [25, 5]⟩]))
def f20 : AFn := ⟨.seq (.ops [⟨(some 1), .box (.t 0), none, [0]⟩,
    ⟨(some 2), .new [.nilslice], none, []⟩,
    ⟨(some 3), .new [.bool false], none, []⟩])
  (.seq (.ops [⟨(some 8), .load1 (.t 1), none, []⟩,
    ⟨(some 9), .call (.c (.func (.func 53) [] [])) [(.t 8)], none, [8]⟩,
    ⟨(some 4), .mov (.t 9), none, [9]⟩])
  (.seq (.seq (.ops [⟨(some 10), .mov (.t 4), none, []⟩,
    ⟨(some 11), .bin .eql .func (.t 10) (.c (.nilFunc)), none, [10]⟩])
  (.cond (.t 11)
   (.seq (.ops [⟨none, .store 1 (.t 2) (.c (.nilslice)), none, [11]⟩,
     ⟨none, .store 1 (.t 3) (.c (.bool false)), none, []⟩])
   (.ret))
   (.skip)))
  (.seq (.ops [⟨(some 5), .new [.nilslice], none, [11]⟩])
  (.seq (.seq (.ops [⟨(some 12), .mov (.t 4), none, [4]⟩])
  (.block 0 (.rangeFunc 0 (.t 12) f20_P0 f20_X0 f20_Y0)))
  (.seq (.ops [⟨(some 26), .load1 (.t 5), none, [5]⟩,
    ⟨none, .store 1 (.t 2) (.t 26), none, [26]⟩,
    ⟨none, .store 1 (.t 3) (.c (.bool true)), none, []⟩])
  (.ret)))))), 27, [.cell1 2, .cell1 3]⟩
theorem f20_ok : compF Try.prog Try.f20 [⟨0, [], [], [[0], [], []]⟩, ⟨0, [], [], [[], [8], [9]]⟩, ⟨0, [], [], [[], [10]]⟩, ⟨0, [], [], [[11], []]⟩, ⟨0, [], [], [[11]]⟩, ⟨0, [], [], [[4]]⟩, ⟨0, [], [], []⟩, ⟨0, [], [], [[13]]⟩, ⟨0, [], [], [[14]]⟩, ⟨0, [], [], [[], [15], [1], [17], [18, 16]]⟩, ⟨0, [], [], [[19, 2], [3]]⟩, ⟨0, [], [], [[19], [6], [7], [21, 22], [23], [24, 20], [25, 5]]⟩, ⟨0, [], [], [[5], [26], []]⟩] = some f20 := by kernel_rfl

/-! 21: polyglot/polyglotlaw03.next -/
def f21 : AFn := ⟨.seq (.ops [⟨(some 6), .mov (.c (.int .i64 0)), none, [6]⟩])
  (.seq (.seq (.ops [⟨(some 7), .mov (.t 1), none, []⟩,
    ⟨(some 8), .bin .add .none (.t 7) (.c (.int .i64 1)), none, [7]⟩,
    ⟨(some 9), .mov (.t 0), none, []⟩,
    ⟨(some 10), .len (.t 9), none, [9]⟩,
    ⟨(some 11), .bin .lss .none (.t 8) (.t 10), none, [10, 8]⟩])
  (.cond (.t 11)
   (.seq (.ops [⟨(some 12), .mov (.t 0), none, [11, 0]⟩,
     ⟨(some 13), .mov (.t 1), none, [1]⟩,
     ⟨(some 14), .bin .add .none (.t 13) (.c (.int .i64 1)), none, [13]⟩,
     ⟨(some 15), .indexAddr 2 (.t 12) (.t 14), none, [14, 12]⟩,
     ⟨(some 16), .fieldAddr 0 (.t 15), none, [15]⟩,
     ⟨(some 17), .load1 (.t 16), none, [16]⟩,
     ⟨(some 6), .mov (.t 17), none, [17]⟩])
   (.ret))
   (.skip)))
  (.seq (.ops [⟨(some 18), .mov (.t 2), none, [11, 2]⟩,
    ⟨(some 6), .mov (.t 18), none, [18]⟩])
  (.ret))), 19, [.tmp 6]⟩
theorem f21_ok : compF Try.prog Try.f21 [⟨0, [], [], [[6]]⟩, ⟨0, [], [], [[], [7], [], [9], [10, 8]]⟩, ⟨0, [], [], [[11, 0], [1], [13], [14, 12], [15], [16], [17]]⟩, ⟨0, [], [], [[11, 2], [18]]⟩] = some f21 := by kernel_rfl

/-! 22: polyglot/octet.New -/
def f22 : AFn := ⟨.seq (.ops [⟨(some 2), .mov (.c (.nilptr)), none, [2]⟩])
  (.seq (.ops [⟨(some 3), .mov (.t 0), none, [0]⟩,
    ⟨(some 4), .build [.str [], .int .i64 0, .int .i64 0] [(0, 1, (.t 3))], none, [3]⟩,
    ⟨(some 5), .box (.t 4), none, [4]⟩,
    ⟨(some 2), .mov (.t 5), none, [5]⟩])
  (.ret)), 6, [.tmp 2]⟩
theorem f22_ok : compF Try.prog Try.f22 [⟨0, [], [], [[2]]⟩, ⟨0, [], [], [[0], [3], [4], [5]]⟩] = some f22 := by kernel_rfl

/-! 23: (*polyglot/octet.Cursor).Err -/
def f23 : AFn := ⟨.seq (.ops [⟨(some 2), .mov (.c (.int .i64 0)), none, [2]⟩])
  (.seq (.seq (.ops [⟨(some 3), .mov (.t 0), none, []⟩,
    ⟨(some 4), .bin .eql .ptr (.t 3) (.c (.nilptr)), none, [3]⟩])
  (.cond (.t 4)
   (.seq (.ops [⟨(some 2), .mov (.c (.int .i64 1)), none, [4]⟩])
   (.ret))
   (.skip)))
  (.seq (.ops [⟨(some 5), .mov (.t 0), none, [4, 0]⟩,
    ⟨(some 6), .nilCheck (.t 5), none, [5]⟩,
    ⟨(some 7), .fieldAddr 2 (.t 6), none, [6]⟩,
    ⟨(some 8), .load1 (.t 7), none, [7]⟩,
    ⟨(some 2), .mov (.t 8), none, [8]⟩])
  (.ret))), 9, [.tmp 2]⟩
theorem f23_ok : compF Try.prog Try.f23 [⟨0, [], [], [[2]]⟩, ⟨0, [], [], [[], [3]]⟩, ⟨0, [], [], [[4]]⟩, ⟨0, [], [], [[4, 0], [5], [6], [7], [8]]⟩] = some f23 := by kernel_rfl

/-! 24: (*polyglot/octet.Cursor).Left -/
def f24 : AFn := ⟨.seq (.ops [⟨(some 2), .mov (.c (.int .i64 0)), none, [2]⟩])
  (.seq (.ops [⟨(some 3), .mov (.t 0), none, [0]⟩,
    ⟨(some 4), .call (.c (.func (.func 26) [] [])) [(.t 3)], none, [3]⟩,
    ⟨(some 5), .lenS (.t 4), none, [4]⟩,
    ⟨(some 2), .mov (.t 5), none, [5]⟩])
  (.ret)), 6, [.tmp 2]⟩
theorem f24_ok : compF Try.prog Try.f24 [⟨0, [], [], [[2]]⟩, ⟨0, [], [], [[0], [3], [4], [5]]⟩] = some f24 := by kernel_rfl

/-! 25: (*polyglot/octet.Cursor).Peek -/
def f25 : AFn := ⟨.seq (.ops [⟨(some 4), .mov (.c (.str [])), none, [4]⟩])
  (.seq (.seq (.ops [⟨(some 5), .mov (.t 0), none, []⟩,
    ⟨(some 6), .call (.c (.func (.func 54) [] [])) [(.t 5)], none, [5]⟩,
    ⟨(some 7), .not (.t 6), none, [6]⟩,
    ⟨(some 8), .mov (.t 7), none, [7]⟩,
    ⟨(some 9), .mov (.t 0), (some (8, false)), []⟩,
    ⟨(some 10), .mov (.t 1), (some (8, false)), []⟩,
    ⟨(some 11), .call (.c (.func (.func 55) [] [])) [(.t 9), (.t 10)], (some (8, false)), [9, 10]⟩,
    ⟨(some 12), .not (.t 11), (some (8, false)), [11]⟩,
    ⟨(some 13), .pick (.t 8) (.c (.bool true)) (.t 12), none, [12, 8]⟩])
  (.cond (.t 13)
   (.seq (.ops [⟨(some 4), .mov (.c (.str [])), none, [13]⟩])
   (.ret))
   (.skip)))
  (.seq (.quiet [⟨(some 14), .mov (.t 0), none, [13]⟩,
    ⟨(some 15), .nilCheck (.t 14), none, [14]⟩,
    ⟨(some 16), .fieldAddr 0 (.t 15), none, [15]⟩,
    ⟨(some 17), .load1 (.t 16), none, [16]⟩,
    ⟨(some 18), .mov (.t 0), none, [0]⟩,
    ⟨(some 19), .nilCheck (.t 18), none, [18]⟩,
    ⟨(some 20), .fieldAddr 1 (.t 19), none, [19]⟩,
    ⟨(some 21), .load1 (.t 20), none, [20]⟩,
    ⟨(some 22), .substr (.t 17) (some (.t 21)) none, none, [21, 17]⟩,
    ⟨(some 23), .mov (.t 1), none, [1]⟩,
    ⟨(some 24), .substr (.t 22) none (some (.t 23)), none, [23, 22]⟩,
    ⟨(some 4), .mov (.t 24), none, [24]⟩])
  (.ret))), 25, [.tmp 4]⟩
theorem f25_ok : compF Try.prog Try.f25 [⟨0, [], [], [[4]]⟩, ⟨0, [], [], [[], [5], [6], [7], [], [], [9, 10], [11], [12, 8]]⟩, ⟨0, [], [], [[13]]⟩, ⟨0, [], [], [[13], [14], [15], [16], [0], [18], [19], [20], [21, 17], [1], [23, 22], [24]]⟩] = some f25 := by kernel_rfl

/-! 26: (*polyglot/octet.Cursor).Rest -/
def f26 : AFn := ⟨.seq (.ops [⟨(some 2), .mov (.c (.str [])), none, [2]⟩])
  (.seq (.seq (.ops [⟨(some 3), .mov (.t 0), none, []⟩,
    ⟨(some 4), .bin .eql .ptr (.t 3) (.c (.nilptr)), none, [3]⟩])
  (.cond (.t 4)
   (.seq (.ops [⟨(some 2), .mov (.c (.str [])), none, [4]⟩])
   (.ret))
   (.skip)))
  (.seq (.quiet [⟨(some 5), .mov (.t 0), none, [4]⟩,
    ⟨(some 6), .nilCheck (.t 5), none, [5]⟩,
    ⟨(some 7), .fieldAddr 0 (.t 6), none, [6]⟩,
    ⟨(some 8), .load1 (.t 7), none, [7]⟩,
    ⟨(some 9), .mov (.t 0), none, [0]⟩,
    ⟨(some 10), .nilCheck (.t 9), none, [9]⟩,
    ⟨(some 11), .fieldAddr 1 (.t 10), none, [10]⟩,
    ⟨(some 12), .load1 (.t 11), none, [11]⟩,
    ⟨(some 13), .substr (.t 8) (some (.t 12)) none, none, [12, 8]⟩,
    ⟨(some 2), .mov (.t 13), none, [13]⟩])
  (.ret))), 14, [.tmp 2]⟩
theorem f26_ok : compF Try.prog Try.f26 [⟨0, [], [], [[2]]⟩, ⟨0, [], [], [[], [3]]⟩, ⟨0, [], [], [[4]]⟩, ⟨0, [], [], [[4], [5], [6], [7], [0], [9], [10], [11], [12, 8], [13]]⟩] = some f26 := by kernel_rfl

/-! 27: (*polyglot/octet.Cursor).Take -/
def f27 : AFn := ⟨.seq (.ops [⟨(some 4), .mov (.c (.str [])), none, [4]⟩])
  (.seq (.seq (.ops [⟨(some 6), .mov (.t 0), none, []⟩,
    ⟨(some 7), .call (.c (.func (.func 54) [] [])) [(.t 6)], none, [6]⟩,
    ⟨(some 8), .not (.t 7), none, [7]⟩])
  (.cond (.t 8)
   (.seq (.ops [⟨(some 4), .mov (.c (.str [])), none, [8]⟩])
   (.ret))
   (.skip)))
  (.seq (.seq (.ops [⟨(some 9), .mov (.t 0), none, [8]⟩,
    ⟨(some 10), .mov (.t 1), none, []⟩,
    ⟨(some 11), .call (.c (.func (.func 55) [] [])) [(.t 9), (.t 10)], none, [9, 10]⟩,
    ⟨(some 12), .not (.t 11), none, [11]⟩])
  (.cond (.t 12)
   (.seq (.ops [⟨(some 13), .mov (.t 0), none, [12, 0]⟩,
     ⟨(some 14), .nilCheck (.t 13), none, [13]⟩,
     ⟨(some 15), .fieldAddr 2 (.t 14), none, [14]⟩,
     ⟨none, .store 1 (.t 15) (.c (.int .i64 3)), none, [15]⟩])
   (.seq (.ops [⟨(some 4), .mov (.c (.str [])), none, []⟩])
   (.ret)))
   (.skip)))
  (.seq (.ops [⟨(some 16), .mov (.t 0), none, [12]⟩,
    ⟨(some 17), .nilCheck (.t 16), none, [16]⟩,
    ⟨(some 18), .fieldAddr 1 (.t 17), none, [17]⟩,
    ⟨(some 19), .load1 (.t 18), none, [18]⟩,
    ⟨(some 5), .mov (.t 19), none, [19]⟩])
  (.seq (.ops [⟨(some 20), .mov (.t 0), none, []⟩,
    ⟨(some 21), .nilCheck (.t 20), none, []⟩,
    ⟨(some 22), .fieldAddr 1 (.t 21), none, [21]⟩,
    ⟨(some 23), .load1 (.t 22), none, [22]⟩,
    ⟨(some 24), .mov (.t 1), none, [1]⟩,
    ⟨(some 25), .bin .add .none (.t 23) (.t 24), none, [24, 23]⟩,
    ⟨(some 26), .nilCheck (.t 20), none, [20]⟩,
    ⟨(some 27), .fieldAddr 1 (.t 26), none, [26]⟩,
    ⟨none, .store 1 (.t 27) (.t 25), none, [25, 27]⟩])
  (.seq (.quiet [⟨(some 28), .mov (.t 0), none, []⟩,
    ⟨(some 29), .nilCheck (.t 28), none, [28]⟩,
    ⟨(some 30), .fieldAddr 0 (.t 29), none, [29]⟩,
    ⟨(some 31), .load1 (.t 30), none, [30]⟩,
    ⟨(some 32), .mov (.t 5), none, [5]⟩,
    ⟨(some 33), .mov (.t 0), none, [0]⟩,
    ⟨(some 34), .nilCheck (.t 33), none, [33]⟩,
    ⟨(some 35), .fieldAddr 1 (.t 34), none, [34]⟩,
    ⟨(some 36), .load1 (.t 35), none, [35]⟩,
    ⟨(some 37), .substr (.t 31) (some (.t 32)) (some (.t 36)), none, [36, 32, 31]⟩,
    ⟨(some 4), .mov (.t 37), none, [37]⟩])
  (.ret)))))), 38, [.tmp 4]⟩
theorem f27_ok : compF Try.prog Try.f27 [⟨0, [], [], [[4]]⟩, ⟨0, [], [], [[], [6], [7]]⟩, ⟨0, [], [], [[8]]⟩, ⟨0, [], [], [[8], [], [9, 10], [11]]⟩, ⟨0, [], [], [[12, 0], [13], [14], [15]]⟩, ⟨0, [], [], [[]]⟩, ⟨0, [], [], [[12], [16], [17], [18], [19]]⟩, ⟨0, [], [], [[], [], [21], [22], [1], [24, 23], [20], [26], [25, 27]]⟩, ⟨0, [], [], [[], [28], [29], [30], [5], [0], [33], [34], [35], [36, 32, 31], [37]]⟩] = some f27 := by kernel_rfl

/-! 28: (*polyglot/octet.Cursor).At -/
def f28 : AFn := ⟨.seq (.ops [⟨(some 2), .mov (.c (.int .i64 0)), none, [2]⟩])
  (.seq (.seq (.ops [⟨(some 3), .mov (.t 0), none, []⟩,
    ⟨(some 4), .bin .eql .ptr (.t 3) (.c (.nilptr)), none, [3]⟩])
  (.cond (.t 4)
   (.seq (.ops [⟨(some 2), .mov (.c (.int .i64 0)), none, [4]⟩])
   (.ret))
   (.skip)))
  (.seq (.ops [⟨(some 5), .mov (.t 0), none, [4, 0]⟩,
    ⟨(some 6), .nilCheck (.t 5), none, [5]⟩,
    ⟨(some 7), .fieldAddr 1 (.t 6), none, [6]⟩,
    ⟨(some 8), .load1 (.t 7), none, [7]⟩,
    ⟨(some 2), .mov (.t 8), none, [8]⟩])
  (.ret))), 9, [.tmp 2]⟩
theorem f28_ok : compF Try.prog Try.f28 [⟨0, [], [], [[2]]⟩, ⟨0, [], [], [[], [3]]⟩, ⟨0, [], [], [[4]]⟩, ⟨0, [], [], [[4, 0], [5], [6], [7], [8]]⟩] = some f28 := by kernel_rfl

/-! 29: (*polyglot/octet.Cursor).Number -/
def f29 : AFn := ⟨.seq (.ops [⟨(some 4), .mov (.c (.int .u64 0)), none, [4]⟩])
  (.seq (.ops [⟨(some 5), .mov (.t 0), none, [0]⟩,
    ⟨(some 6), .mov (.t 1), none, [1]⟩,
    ⟨(some 7), .call (.c (.func (.func 27) [] [])) [(.t 5), (.t 6)], none, [5, 6]⟩,
    ⟨(some 8), .call (.c (.func (.func 15) [] [])) [(.t 7)], none, [7]⟩,
    ⟨(some 4), .mov (.t 8), none, [8]⟩])
  (.ret)), 9, [.tmp 4]⟩
theorem f29_ok : compF Try.prog Try.f29 [⟨0, [], [], [[4]]⟩, ⟨0, [], [], [[0], [1], [5, 6], [7], [8]]⟩] = some f29 := by kernel_rfl

/-! 30: (*polyglot/octet.Cursor).Fail -/
def f30 : AFn := ⟨.seq (.ops [⟨(some 4), .mov (.t 0), none, []⟩,
    ⟨(some 5), .call (.c (.func (.func 54) [] [])) [(.t 4)], none, [4]⟩])
  (.cond (.t 5)
   (.ops [⟨(some 6), .mov (.t 0), none, [5, 0]⟩,
     ⟨(some 7), .mov (.t 1), none, [1]⟩,
     ⟨(some 8), .nilCheck (.t 6), none, [6]⟩,
     ⟨(some 9), .fieldAddr 2 (.t 8), none, [8]⟩,
     ⟨none, .store 1 (.t 9) (.t 7), none, [7, 9]⟩])
   (.skip)), 10, []⟩
theorem f30_ok : compF Try.prog Try.f30 [⟨0, [], [], [[], [4]]⟩, ⟨0, [], [], [[5, 0], [1], [6], [8], [7, 9]]⟩] = some f30 := by kernel_rfl

/-! 31: polyglot/polyglotref01.New -/
def f31 : AFn := ⟨.seq (.ops [⟨(some 2), .mov (.c (.nilptr)), none, [2]⟩])
  (.seq (.ops [⟨(some 3), .mov (.t 0), none, [0]⟩,
    ⟨(some 4), .build [.str [], .int .i64 0, .int .i64 0] [(0, 1, (.t 3))], none, [3]⟩,
    ⟨(some 5), .box (.t 4), none, [4]⟩,
    ⟨(some 2), .mov (.t 5), none, [5]⟩])
  (.ret)), 6, [.tmp 2]⟩
theorem f31_ok : compF Try.prog Try.f31 [⟨0, [], [], [[2]]⟩, ⟨0, [], [], [[0], [3], [4], [5]]⟩] = some f31 := by kernel_rfl

/-! 32: (*polyglot/polyglotref01.Cursor).Take -/
def f32 : AFn := ⟨.seq (.ops [⟨(some 4), .mov (.c (.str [])), none, [4]⟩])
  (.seq (.seq (.quiet [⟨(some 6), .mov (.t 0), none, []⟩,
    ⟨(some 7), .nilCheck (.t 6), none, [6]⟩,
    ⟨(some 8), .fieldAddr 2 (.t 7), none, [7]⟩,
    ⟨(some 9), .load1 (.t 8), none, [8]⟩,
    ⟨(some 10), .bin .eql .none (.t 9) (.c (.int .i64 0)), none, [9]⟩,
    ⟨(some 11), .mov (.t 10), none, [10]⟩,
    ⟨(some 12), .mov (.t 1), (some (11, true)), []⟩,
    ⟨(some 13), .bin .lss .none (.t 12) (.c (.int .i64 0)), (some (11, true)), [12]⟩,
    ⟨(some 14), .mov (.t 13), (some (11, true)), [13]⟩,
    ⟨(some 15), .mov (.t 1), (some (14, false)), []⟩,
    ⟨(some 16), .mov (.t 0), (some (14, false)), []⟩,
    ⟨(some 17), .nilCheck (.t 16), (some (14, false)), [16]⟩,
    ⟨(some 18), .fieldAddr 0 (.t 17), (some (14, false)), [17]⟩,
    ⟨(some 19), .load1 (.t 18), (some (14, false)), [18]⟩,
    ⟨(some 20), .lenS (.t 19), (some (14, false)), [19]⟩,
    ⟨(some 21), .mov (.t 0), (some (14, false)), []⟩,
    ⟨(some 22), .nilCheck (.t 21), (some (14, false)), [21]⟩,
    ⟨(some 23), .fieldAddr 1 (.t 22), (some (14, false)), [22]⟩,
    ⟨(some 24), .load1 (.t 23), (some (14, false)), [23]⟩,
    ⟨(some 25), .bin .sub .none (.t 20) (.t 24), (some (14, false)), [24, 20]⟩,
    ⟨(some 26), .bin .gtr .none (.t 15) (.t 25), (some (14, false)), [25, 15]⟩,
    ⟨(some 27), .pick (.t 14) (.c (.bool true)) (.t 26), (some (11, true)), [26, 14]⟩,
    ⟨(some 28), .pick (.t 11) (.t 27) (.c (.bool false)), none, [27, 11]⟩])
  (.cond (.t 28)
   (.ops [⟨(some 29), .mov (.t 0), none, [28]⟩,
     ⟨(some 30), .nilCheck (.t 29), none, [29]⟩,
     ⟨(some 31), .fieldAddr 2 (.t 30), none, [30]⟩,
     ⟨none, .store 1 (.t 31) (.c (.int .i64 3)), none, [31]⟩])
   (.skip)))
  (.seq (.ops [⟨(some 32), .mov (.t 0), none, [28]⟩,
    ⟨(some 33), .mov (.t 1), none, [1]⟩,
    ⟨(some 34), .call (.c (.func (.func 34) [] [])) [(.t 32), (.t 33)], none, [32, 33]⟩,
    ⟨(some 5), .mov (.t 34), none, [34]⟩])
  (.seq (.ops [⟨(some 35), .mov (.t 0), none, []⟩,
    ⟨(some 36), .mov (.t 0), none, [0]⟩,
    ⟨(some 37), .nilCheck (.t 36), none, [36]⟩,
    ⟨(some 38), .fieldAddr 1 (.t 37), none, [37]⟩,
    ⟨(some 39), .load1 (.t 38), none, [38]⟩,
    ⟨(some 40), .mov (.t 5), none, []⟩,
    ⟨(some 41), .lenS (.t 40), none, [40]⟩,
    ⟨(some 42), .bin .add .none (.t 39) (.t 41), none, [41, 39]⟩,
    ⟨(some 43), .nilCheck (.t 35), none, [35]⟩,
    ⟨(some 44), .fieldAddr 1 (.t 43), none, [43]⟩,
    ⟨none, .store 1 (.t 44) (.t 42), none, [42, 44]⟩])
  (.seq (.ops [⟨(some 45), .mov (.t 5), none, [5]⟩,
    ⟨(some 4), .mov (.t 45), none, [45]⟩])
  (.ret))))), 46, [.tmp 4]⟩
theorem f32_ok : compF Try.prog Try.f32 [⟨0, [], [], [[4]]⟩, ⟨0, [], [], [[], [6], [7], [8], [9], [10], [], [12], [13], [], [], [16], [17], [18], [19], [], [21], [22], [23], [24, 20], [25, 15], [26, 14], [27, 11]]⟩, ⟨0, [], [], [[28], [29], [30], [31]]⟩, ⟨0, [], [], [[28], [1], [32, 33], [34]]⟩, ⟨0, [], [], [[], [0], [36], [37], [38], [], [40], [41, 39], [35], [43], [42, 44]]⟩, ⟨0, [], [], [[5], [45]]⟩] = some f32 := by kernel_rfl

/-! 33: (*polyglot/polyglotref01.Cursor).Number -/
def f33 : AFn := ⟨.seq (.ops [⟨(some 4), .mov (.c (.int .u64 0)), none, [4]⟩])
  (.seq (.ops [⟨(some 5), .mov (.t 0), none, [0]⟩,
    ⟨(some 6), .mov (.t 1), none, [1]⟩,
    ⟨(some 7), .call (.c (.func (.func 32) [] [])) [(.t 5), (.t 6)], none, [5, 6]⟩,
    ⟨(some 8), .call (.c (.func (.func 56) [] [])) [(.t 7)], none, [7]⟩,
    ⟨(some 4), .mov (.t 8), none, [8]⟩])
  (.ret)), 9, [.tmp 4]⟩
theorem f33_ok : compF Try.prog Try.f33 [⟨0, [], [], [[4]]⟩, ⟨0, [], [], [[0], [1], [5, 6], [7], [8]]⟩] = some f33 := by kernel_rfl

/-! 34: (*polyglot/polyglotref01.Cursor).Peek -/
def f34 : AFn := ⟨.seq (.ops [⟨(some 4), .mov (.c (.str [])), none, [4]⟩])
  (.seq (.seq (.quiet [⟨(some 5), .mov (.t 0), none, []⟩,
    ⟨(some 6), .nilCheck (.t 5), none, [5]⟩,
    ⟨(some 7), .fieldAddr 2 (.t 6), none, [6]⟩,
    ⟨(some 8), .load1 (.t 7), none, [7]⟩,
    ⟨(some 9), .bin .neq .none (.t 8) (.c (.int .i64 0)), none, [8]⟩,
    ⟨(some 10), .mov (.t 9), none, [9]⟩,
    ⟨(some 11), .mov (.t 1), (some (10, false)), []⟩,
    ⟨(some 12), .bin .lss .none (.t 11) (.c (.int .i64 0)), (some (10, false)), [11]⟩,
    ⟨(some 13), .pick (.t 10) (.c (.bool true)) (.t 12), none, [12, 10]⟩,
    ⟨(some 14), .mov (.t 13), none, [13]⟩,
    ⟨(some 15), .mov (.t 1), (some (14, false)), []⟩,
    ⟨(some 16), .mov (.t 0), (some (14, false)), []⟩,
    ⟨(some 17), .nilCheck (.t 16), (some (14, false)), [16]⟩,
    ⟨(some 18), .fieldAddr 0 (.t 17), (some (14, false)), [17]⟩,
    ⟨(some 19), .load1 (.t 18), (some (14, false)), [18]⟩,
    ⟨(some 20), .lenS (.t 19), (some (14, false)), [19]⟩,
    ⟨(some 21), .mov (.t 0), (some (14, false)), []⟩,
    ⟨(some 22), .nilCheck (.t 21), (some (14, false)), [21]⟩,
    ⟨(some 23), .fieldAddr 1 (.t 22), (some (14, false)), [22]⟩,
    ⟨(some 24), .load1 (.t 23), (some (14, false)), [23]⟩,
    ⟨(some 25), .bin .sub .none (.t 20) (.t 24), (some (14, false)), [24, 20]⟩,
    ⟨(some 26), .bin .gtr .none (.t 15) (.t 25), (some (14, false)), [25, 15]⟩,
    ⟨(some 27), .pick (.t 14) (.c (.bool true)) (.t 26), none, [26, 14]⟩])
  (.cond (.t 27)
   (.seq (.ops [⟨(some 4), .mov (.c (.str [])), none, [27]⟩])
   (.ret))
   (.skip)))
  (.seq (.quiet [⟨(some 28), .mov (.t 0), none, [27]⟩,
    ⟨(some 29), .nilCheck (.t 28), none, [28]⟩,
    ⟨(some 30), .fieldAddr 0 (.t 29), none, [29]⟩,
    ⟨(some 31), .load1 (.t 30), none, [30]⟩,
    ⟨(some 32), .mov (.t 0), none, []⟩,
    ⟨(some 33), .nilCheck (.t 32), none, [32]⟩,
    ⟨(some 34), .fieldAddr 1 (.t 33), none, [33]⟩,
    ⟨(some 35), .load1 (.t 34), none, [34]⟩,
    ⟨(some 36), .mov (.t 0), none, [0]⟩,
    ⟨(some 37), .nilCheck (.t 36), none, [36]⟩,
    ⟨(some 38), .fieldAddr 1 (.t 37), none, [37]⟩,
    ⟨(some 39), .load1 (.t 38), none, [38]⟩,
    ⟨(some 40), .mov (.t 1), none, [1]⟩,
    ⟨(some 41), .bin .add .none (.t 39) (.t 40), none, [40, 39]⟩,
    ⟨(some 42), .substr (.t 31) (some (.t 35)) (some (.t 41)), none, [41, 35, 31]⟩,
    ⟨(some 4), .mov (.t 42), none, [42]⟩])
  (.ret))), 43, [.tmp 4]⟩
theorem f34_ok : compF Try.prog Try.f34 [⟨0, [], [], [[4]]⟩, ⟨0, [], [], [[], [5], [6], [7], [8], [9], [], [11], [12, 10], [13], [], [], [16], [17], [18], [19], [], [21], [22], [23], [24, 20], [25, 15], [26, 14]]⟩, ⟨0, [], [], [[27]]⟩, ⟨0, [], [], [[27], [28], [29], [30], [], [32], [33], [34], [0], [36], [37], [38], [1], [40, 39], [41, 35, 31], [42]]⟩] = some f34 := by kernel_rfl

/-! 35: (*polyglot/polyglotref01.Cursor).Fail -/
def f35 : AFn := ⟨.seq (.ops [⟨(some 4), .mov (.t 0), none, []⟩,
    ⟨(some 5), .nilCheck (.t 4), none, [4]⟩,
    ⟨(some 6), .fieldAddr 2 (.t 5), none, [5]⟩,
    ⟨(some 7), .load1 (.t 6), none, [6]⟩,
    ⟨(some 8), .bin .eql .none (.t 7) (.c (.int .i64 0)), none, [7]⟩])
  (.cond (.t 8)
   (.ops [⟨(some 9), .mov (.t 0), none, [8, 0]⟩,
     ⟨(some 10), .mov (.t 1), none, [1]⟩,
     ⟨(some 11), .nilCheck (.t 9), none, [9]⟩,
     ⟨(some 12), .fieldAddr 2 (.t 11), none, [11]⟩,
     ⟨none, .store 1 (.t 12) (.t 10), none, [10, 12]⟩])
   (.skip)), 13, []⟩
theorem f35_ok : compF Try.prog Try.f35 [⟨0, [], [], [[], [4], [5], [6], [7]]⟩, ⟨0, [], [], [[8, 0], [1], [9], [11], [10, 12]]⟩] = some f35 := by kernel_rfl

/-! 36: (*polyglot/polyglotref01.Cursor).Left -/
def f36 : AFn := ⟨.seq (.ops [⟨(some 2), .mov (.c (.int .i64 0)), none, [2]⟩])
  (.seq (.quiet [⟨(some 3), .mov (.t 0), none, []⟩,
    ⟨(some 4), .nilCheck (.t 3), none, [3]⟩,
    ⟨(some 5), .fieldAddr 0 (.t 4), none, [4]⟩,
    ⟨(some 6), .load1 (.t 5), none, [5]⟩,
    ⟨(some 7), .lenS (.t 6), none, [6]⟩,
    ⟨(some 8), .mov (.t 0), none, [0]⟩,
    ⟨(some 9), .nilCheck (.t 8), none, [8]⟩,
    ⟨(some 10), .fieldAddr 1 (.t 9), none, [9]⟩,
    ⟨(some 11), .load1 (.t 10), none, [10]⟩,
    ⟨(some 12), .bin .sub .none (.t 7) (.t 11), none, [11, 7]⟩,
    ⟨(some 2), .mov (.t 12), none, [12]⟩])
  (.ret)), 13, [.tmp 2]⟩
theorem f36_ok : compF Try.prog Try.f36 [⟨0, [], [], [[2]]⟩, ⟨0, [], [], [[], [3], [4], [5], [6], [0], [8], [9], [10], [11, 7], [12]]⟩] = some f36 := by kernel_rfl

/-! 37: (*polyglot/polyglotref01.Cursor).Rest -/
def f37 : AFn := ⟨.seq (.ops [⟨(some 2), .mov (.c (.str [])), none, [2]⟩])
  (.seq (.quiet [⟨(some 3), .mov (.t 0), none, []⟩,
    ⟨(some 4), .nilCheck (.t 3), none, [3]⟩,
    ⟨(some 5), .fieldAddr 0 (.t 4), none, [4]⟩,
    ⟨(some 6), .load1 (.t 5), none, [5]⟩,
    ⟨(some 7), .mov (.t 0), none, [0]⟩,
    ⟨(some 8), .nilCheck (.t 7), none, [7]⟩,
    ⟨(some 9), .fieldAddr 1 (.t 8), none, [8]⟩,
    ⟨(some 10), .load1 (.t 9), none, [9]⟩,
    ⟨(some 11), .substr (.t 6) (some (.t 10)) none, none, [10, 6]⟩,
    ⟨(some 2), .mov (.t 11), none, [11]⟩])
  (.ret)), 12, [.tmp 2]⟩
theorem f37_ok : compF Try.prog Try.f37 [⟨0, [], [], [[2]]⟩, ⟨0, [], [], [[], [3], [4], [5], [0], [7], [8], [9], [10, 6], [11]]⟩] = some f37 := by kernel_rfl

/-! 38: polyglot/ustring.Text -/
def f38 : AFn := ⟨.seq (.ops [⟨(some 2), .mov (.c (.str [])), none, [2]⟩,
    ⟨(some 3), .mov (.c (.int .i64 0)), none, [3]⟩])
  (.seq (.seq (.ops [⟨(some 4), .mov (.t 0), none, []⟩,
    ⟨(some 5), .call (.c (.func (.func 17) [] [])) [(.t 4)], none, [4]⟩,
    ⟨(some 6), .not (.t 5), none, [5]⟩])
  (.cond (.t 6)
   (.seq (.ops [⟨(some 2), .mov (.c (.str [])), none, [6]⟩,
     ⟨(some 3), .mov (.c (.int .i64 6)), none, []⟩])
   (.ret))
   (.skip)))
  (.seq (.ops [⟨(some 7), .mov (.t 0), none, [6, 0]⟩,
    ⟨(some 8), .call (.c (.func (.func 57) [] [])) [(.t 7)], none, [7]⟩,
    ⟨(some 2), .mov (.t 8), none, [8]⟩,
    ⟨(some 3), .mov (.c (.int .i64 0)), none, []⟩])
  (.ret))), 9, [.tmp 2, .tmp 3]⟩
theorem f38_ok : compF Try.prog Try.f38 [⟨0, [], [], [[2], [3]]⟩, ⟨0, [], [], [[], [4], [5]]⟩, ⟨0, [], [], [[6], []]⟩, ⟨0, [], [], [[6, 0], [7], [8], []]⟩] = some f38 := by kernel_rfl

/-! 39: polyglot/ustring.Read -/
def f39 : AFn := ⟨.seq (.ops [⟨(some 2), .mov (.c (.str [])), none, [2]⟩,
    ⟨(some 3), .mov (.c (.int .i64 0)), none, [3]⟩,
    ⟨(some 4), .mov (.c (.int .i64 0)), none, [4]⟩])
  (.seq (.ops [⟨(some 6), .mov (.t 0), none, [0]⟩,
    ⟨(some 7), .call (.c (.func (.func 41) [] [])) [(.t 6)], none, [6]⟩,
    ⟨(some 5), .mov (.t 7), none, [7]⟩,
    ⟨(some 8), .extract (.t 5) 0, none, []⟩,
    ⟨(some 9), .extract (.t 5) 1, none, []⟩,
    ⟨(some 10), .extract (.t 5) 2, none, [5]⟩,
    ⟨(some 2), .mov (.t 8), none, [8]⟩,
    ⟨(some 3), .mov (.t 9), none, [9]⟩,
    ⟨(some 4), .mov (.t 10), none, [10]⟩])
  (.seq (.seq (.ops [⟨(some 11), .mov (.t 4), none, []⟩,
    ⟨(some 12), .bin .eql .none (.t 11) (.c (.int .i64 0)), none, [11]⟩,
    ⟨(some 13), .mov (.t 12), none, [12]⟩,
    ⟨(some 14), .mov (.t 2), (some (13, true)), []⟩,
    ⟨(some 15), .call (.c (.func (.func 17) [] [])) [(.t 14)], (some (13, true)), [14]⟩,
    ⟨(some 16), .not (.t 15), (some (13, true)), [15]⟩,
    ⟨(some 17), .pick (.t 13) (.t 16) (.c (.bool false)), none, [16, 13]⟩])
  (.cond (.t 17)
   (.seq (.ops [⟨(some 2), .mov (.c (.str [])), none, [17]⟩,
     ⟨(some 3), .mov (.c (.int .i64 0)), none, []⟩,
     ⟨(some 4), .mov (.c (.int .i64 6)), none, []⟩])
   (.ret))
   (.skip)))
  (.seq (.ops [⟨(some 18), .mov (.t 2), none, [17, 2]⟩,
    ⟨(some 19), .mov (.t 3), none, [3]⟩,
    ⟨(some 20), .mov (.t 4), none, [4]⟩,
    ⟨(some 2), .mov (.t 18), none, [18]⟩,
    ⟨(some 3), .mov (.t 19), none, [19]⟩,
    ⟨(some 4), .mov (.t 20), none, [20]⟩])
  (.ret)))), 21, [.tmp 2, .tmp 3, .tmp 4]⟩
theorem f39_ok : compF Try.prog Try.f39 [⟨0, [], [], [[2], [3], [4]]⟩, ⟨0, [], [], [[0], [6], [7], [], [], [5], [8], [9], [10]]⟩, ⟨0, [], [], [[], [11], [12], [], [14], [15], [16, 13]]⟩, ⟨0, [], [], [[17], [], []]⟩, ⟨0, [], [], [[17, 2], [3], [4], [18], [19], [20]]⟩] = some f39 := by kernel_rfl

/-! 40: polyglot/ustring.Binary -/
def f40 : AFn := ⟨.seq (.ops [⟨(some 2), .mov (.c (.str [])), none, [2]⟩,
    ⟨(some 3), .mov (.c (.int .i64 0)), none, [3]⟩])
  (.seq (.seq (.ops [⟨(some 4), .mov (.t 0), none, []⟩,
    ⟨(some 5), .lenS (.t 4), none, [4]⟩,
    ⟨(some 6), .bin .gtr .none (.t 5) (.c (.int .i64 65535)), none, [5]⟩])
  (.cond (.t 6)
   (.seq (.ops [⟨(some 2), .mov (.c (.str [])), none, [6]⟩,
     ⟨(some 3), .mov (.c (.int .i64 2)), none, []⟩])
   (.ret))
   (.skip)))
  (.seq (.ops [⟨(some 7), .mov (.t 0), none, [6, 0]⟩,
    ⟨(some 8), .call (.c (.func (.func 57) [] [])) [(.t 7)], none, [7]⟩,
    ⟨(some 2), .mov (.t 8), none, [8]⟩,
    ⟨(some 3), .mov (.c (.int .i64 0)), none, []⟩])
  (.ret))), 9, [.tmp 2, .tmp 3]⟩
theorem f40_ok : compF Try.prog Try.f40 [⟨0, [], [], [[2], [3]]⟩, ⟨0, [], [], [[], [4], [5]]⟩, ⟨0, [], [], [[6], []]⟩, ⟨0, [], [], [[6, 0], [7], [8], []]⟩] = some f40 := by kernel_rfl

/-! 41: polyglot/ustring.ReadBinary -/
def f41 : AFn := ⟨.seq (.ops [⟨(some 2), .mov (.c (.str [])), none, [2]⟩,
    ⟨(some 3), .mov (.c (.int .i64 0)), none, [3]⟩,
    ⟨(some 4), .mov (.c (.int .i64 0)), none, [4]⟩])
  (.seq (.ops [⟨(some 6), .mov (.t 0), none, [0]⟩,
    ⟨(some 7), .call (.c (.func (.func 22) [] [])) [(.t 6)], none, [6]⟩,
    ⟨(some 5), .mov (.t 7), none, [7]⟩])
  (.seq (.ops [⟨(some 8), .mov (.t 5), none, []⟩,
    ⟨(some 9), .mov (.t 5), none, []⟩,
    ⟨(some 10), .call (.c (.func (.func 29) [] [])) [(.t 9), (.c (.int .i64 2))], none, [9]⟩,
    ⟨(some 11), .conv .i64 (.t 10), none, [10]⟩,
    ⟨(some 12), .call (.c (.func (.func 27) [] [])) [(.t 8), (.t 11)], none, [8, 11]⟩,
    ⟨(some 2), .mov (.t 12), none, [12]⟩])
  (.seq (.seq (.ops [⟨(some 13), .mov (.t 5), none, []⟩,
    ⟨(some 14), .call (.c (.func (.func 23) [] [])) [(.t 13)], none, [13]⟩,
    ⟨(some 4), .mov (.t 14), none, [14]⟩])
  (.seq (.ops [⟨(some 15), .mov (.t 4), none, []⟩,
    ⟨(some 16), .bin .neq .none (.t 15) (.c (.int .i64 0)), none, [15]⟩])
  (.cond (.t 16)
   (.seq (.ops [⟨(some 17), .mov (.t 4), none, [16, 4]⟩,
     ⟨(some 2), .mov (.c (.str [])), none, []⟩,
     ⟨(some 3), .mov (.c (.int .i64 0)), none, []⟩,
     ⟨(some 4), .mov (.t 17), none, [17]⟩])
   (.ret))
   (.skip))))
  (.seq (.ops [⟨(some 18), .mov (.t 2), none, [16, 2]⟩,
    ⟨(some 19), .mov (.t 5), none, [5]⟩,
    ⟨(some 20), .call (.c (.func (.func 28) [] [])) [(.t 19)], none, [19]⟩,
    ⟨(some 2), .mov (.t 18), none, [18]⟩,
    ⟨(some 3), .mov (.t 20), none, [20]⟩,
    ⟨(some 4), .mov (.c (.int .i64 0)), none, []⟩])
  (.ret))))), 21, [.tmp 2, .tmp 3, .tmp 4]⟩
theorem f41_ok : compF Try.prog Try.f41 [⟨0, [], [], [[2], [3], [4]]⟩, ⟨0, [], [], [[0], [6], [7]]⟩, ⟨0, [], [], [[], [], [9], [10], [8, 11], [12]]⟩, ⟨0, [], [], [[], [13], [14]]⟩, ⟨0, [], [], [[], [15]]⟩, ⟨0, [], [], [[16, 4], [], [], [17]]⟩, ⟨0, [], [], [[16, 2], [5], [19], [18], [20], []]⟩] = some f41 := by kernel_rfl

/-! 42: polyglot/polyglotkit.Times -/
def f42_M0 : List Bool := [true, true, false, false, false, true, false, false, false, false, false, false, false, false, false, false, false, false, false, false]
def f42_O0 : List Bool := [false, false, false, false, false, true, false, false, false, false, false, false, false, false, false, false, false, false, false, false]
def f42_L0 : AC := .seq (.seq (.ops [⟨(some 6), .mov (.t 1), none, []⟩,
    ⟨(some 7), .bin .gtr .none (.t 6) (.c (.int .i64 0)), none, [6]⟩])
  (.cond (.t 7)
   (.skip)
   (.exit 0)))
  (.seq (.block 1 (.seq (.seq (.ops [⟨(some 10), .mov (.t 1), none, [7]⟩,
     ⟨(some 11), .bin .rem .none (.t 10) (.c (.int .i64 2)), none, [10]⟩,
     ⟨(some 12), .bin .eql .none (.t 11) (.c (.int .i64 1)), none, [11]⟩])
   (.cond (.t 12)
    (.ops [⟨(some 13), .mov (.t 5), none, [12, 5]⟩,
      ⟨(some 14), .mov (.t 0), none, []⟩,
      ⟨(some 15), .bin .add .none (.t 13) (.t 14), none, [14, 13]⟩,
      ⟨(some 5), .mov (.t 15), none, [15]⟩])
    (.skip)))
   (.ops [⟨(some 16), .mov (.t 0), none, [12]⟩,
     ⟨(some 17), .mov (.t 0), none, [0]⟩,
     ⟨(some 18), .bin .add .none (.t 16) (.t 17), none, [17, 16]⟩,
     ⟨(some 0), .mov (.t 18), none, [18]⟩])))
  (.ops [⟨(some 8), .mov (.t 1), none, [1]⟩,
    ⟨(some 9), .bin .quo .none (.t 8) (.c (.int .i64 2)), none, [8]⟩,
    ⟨(some 1), .mov (.t 9), none, [9]⟩]))
/-- live: [0, 1, 5] -/
def f42_S0 (x0 x1 x5 : KV) : List KV := [x0, x1, .junk, .junk, .junk, x5, .junk, .junk, .junk, .junk, .junk, .junk, .junk, .junk, .junk, .junk, .junk, .junk, .junk, .junk]
/-- live: [5] -/
def f42_E0 (x5 : KV) : List KV := [.junk, .junk, .junk, .junk, .junk, x5, .junk, .junk, .junk, .junk, .junk, .junk, .junk, .junk, .junk, .junk, .junk, .junk, .junk, .junk]
def f42_D0 {α : Type} (fr : List KV) (no : α) (yes : KV → KV → KV → α) : α :=
  match pickM f42_M0 fr with
  | some [x0, x1, x5] => yes x0 x1 x5
  | _ => no
theorem f42_D0_inv {β : Type} {fr : List KV} {yes : KV → KV → KV → Option β} {r : β} (h : f42_D0 fr none yes = some r) : ∃ x0 x1 x5, maskK f42_M0 fr = f42_S0 x0 x1 x5 ∧ yes x0 x1 x5 = some r := by
  unfold f42_D0 at h
  split at h
  · rename_i hp
    exact ⟨_, _, _, pickM_mask _ _ _ hp, h⟩
  · cases h
def f42 : AFn := ⟨.seq (.ops [⟨(some 4), .mov (.c (.str [])), none, [4]⟩])
  (.seq (.ops [⟨(some 5), .mov (.c (.str [])), none, []⟩])
  (.seq (.block 0 (.loop 0 f42_M0 f42_O0 f42_L0))
  (.seq (.ops [⟨(some 19), .mov (.t 5), none, [7, 5]⟩,
    ⟨(some 4), .mov (.t 19), none, [19]⟩])
  (.ret)))), 20, [.tmp 4]⟩
theorem f42_ok : compF Try.prog Try.f42 [⟨0, [], [], [[4]]⟩, ⟨0, [], [], [[]]⟩, ⟨0, [true, true, false, false, false, true, false, false, false, false, false, false, false, false, false, false, false, false, false, false], [false, false, false, false, false, true, false, false, false, false, false, false, false, false, false, false, false, false, false, false], []⟩, ⟨0, [], [], [[], [6]]⟩, ⟨0, [], [], [[7], [10], [11]]⟩, ⟨0, [], [], [[12, 5], [], [14, 13], [15]]⟩, ⟨0, [], [], [[12], [0], [17, 16], [18]]⟩, ⟨0, [], [], [[1], [8], [9]]⟩, ⟨0, [], [], [[7, 5], [19]]⟩] = some f42 := by kernel_rfl

/-! 43: polyglot/polyglotkit.Same[polyglot/polyglotref03.Rune] -/
def f43_M0 : List Bool := [true, true, false, false, false, true, false, false, false, false, false, false, false, false, false, false, false, false, false, false, false, false, false, false, false, false]
def f43_O0 : List Bool := [false, false, false, false, true, false, false, false, false, false, false, false, false, false, false, false, false, false, false, false, false, false, false, false, false, false]
def f43_L0 : AC := .seq (.seq (.ops [⟨(some 11), .mov (.t 5), none, []⟩,
    ⟨(some 12), .mov (.t 0), none, []⟩,
    ⟨(some 13), .len (.t 12), none, [12]⟩,
    ⟨(some 14), .bin .lss .none (.t 11) (.t 13), none, [13, 11]⟩])
  (.cond (.t 14)
   (.skip)
   (.exit 0)))
  (.seq (.block 1 (.seq (.quiet [⟨(some 17), .mov (.t 0), none, [14]⟩,
     ⟨(some 18), .mov (.t 5), none, []⟩,
     ⟨(some 19), .indexAddr 2 (.t 17) (.t 18), none, [18, 17]⟩,
     ⟨(some 20), .loadN 2 (.t 19), none, [19]⟩,
     ⟨(some 21), .mov (.t 1), none, []⟩,
     ⟨(some 22), .mov (.t 5), none, []⟩,
     ⟨(some 23), .indexAddr 2 (.t 21) (.t 22), none, [22, 21]⟩,
     ⟨(some 24), .loadN 2 (.t 23), none, [23]⟩,
     ⟨(some 25), .bin .neq (.agg [.int .i64, .int .i32]) (.t 20) (.t 24), none, [24, 20]⟩])
   (.cond (.t 25)
    (.seq (.ops [⟨(some 4), .mov (.c (.bool false)), none, [25]⟩])
    (.ret))
    (.skip))))
  (.ops [⟨(some 15), .mov (.t 5), none, [25, 5]⟩,
    ⟨(some 16), .bin .add .none (.t 15) (.c (.int .i64 1)), none, [15]⟩,
    ⟨(some 5), .mov (.t 16), none, [16]⟩]))
/-- live: [0, 1, 5] -/
def f43_S0 (x0 x1 x5 : KV) : List KV := [x0, x1, .junk, .junk, .junk, x5, .junk, .junk, .junk, .junk, .junk, .junk, .junk, .junk, .junk, .junk, .junk, .junk, .junk, .junk, .junk, .junk, .junk, .junk, .junk, .junk]
/-- live: [4] -/
def f43_E0 (x4 : KV) : List KV := [.junk, .junk, .junk, .junk, x4, .junk, .junk, .junk, .junk, .junk, .junk, .junk, .junk, .junk, .junk, .junk, .junk, .junk, .junk, .junk, .junk, .junk, .junk, .junk, .junk, .junk]
def f43_D0 {α : Type} (fr : List KV) (no : α) (yes : KV → KV → KV → α) : α :=
  match pickM f43_M0 fr with
  | some [x0, x1, x5] => yes x0 x1 x5
  | _ => no
theorem f43_D0_inv {β : Type} {fr : List KV} {yes : KV → KV → KV → Option β} {r : β} (h : f43_D0 fr none yes = some r) : ∃ x0 x1 x5, maskK f43_M0 fr = f43_S0 x0 x1 x5 ∧ yes x0 x1 x5 = some r := by
  unfold f43_D0 at h
  split at h
  · rename_i hp
    exact ⟨_, _, _, pickM_mask _ _ _ hp, h⟩
  · cases h
def f43 : AFn := ⟨.seq (.ops [⟨(some 4), .mov (.c (.bool false)), none, [4]⟩])
  (.seq (.seq (.ops [⟨(some 6), .mov (.t 0), none, []⟩,
    ⟨(some 7), .len (.t 6), none, [6]⟩,
    ⟨(some 8), .mov (.t 1), none, []⟩,
    ⟨(some 9), .len (.t 8), none, [8]⟩,
    ⟨(some 10), .bin .neq .none (.t 7) (.t 9), none, [9, 7]⟩])
  (.cond (.t 10)
   (.seq (.ops [⟨(some 4), .mov (.c (.bool false)), none, [10]⟩])
   (.ret))
   (.skip)))
  (.seq (.seq (.ops [⟨(some 5), .mov (.c (.int .i64 0)), none, [10]⟩])
  (.block 0 (.loop 0 f43_M0 f43_O0 f43_L0)))
  (.seq (.ops [⟨(some 4), .mov (.c (.bool true)), none, [14]⟩])
  (.ret)))), 26, [.tmp 4]⟩
theorem f43_ok : compF Try.prog Try.f43 [⟨0, [], [], [[4]]⟩, ⟨0, [], [], [[], [6], [], [8], [9, 7]]⟩, ⟨0, [], [], [[10]]⟩, ⟨0, [], [], [[10]]⟩, ⟨0, [true, true, false, false, false, true, false, false, false, false, false, false, false, false, false, false, false, false, false, false, false, false, false, false, false, false], [false, false, false, false, true, false, false, false, false, false, false, false, false, false, false, false, false, false, false, false, false, false, false, false, false, false], []⟩, ⟨0, [], [], [[], [], [12], [13, 11]]⟩, ⟨0, [], [], [[14], [], [18, 17], [19], [], [], [22, 21], [23], [24, 20]]⟩, ⟨0, [], [], [[25]]⟩, ⟨0, [], [], [[25, 5], [15], [16]]⟩, ⟨0, [], [], [[14]]⟩] = some f43 := by kernel_rfl

/-! 44: polyglot/polyglotref03.Text -/
def f44 : AFn := ⟨.seq (.ops [⟨(some 2), .mov (.c (.str [])), none, [2]⟩,
    ⟨(some 3), .mov (.c (.int .i64 0)), none, [3]⟩])
  (.seq (.seq (.ops [⟨(some 4), .mov (.t 0), none, []⟩,
    ⟨(some 5), .call (.c (.func (.func 48) [] [])) [(.t 4)], none, [4]⟩,
    ⟨(some 6), .not (.t 5), none, [5]⟩])
  (.cond (.t 6)
   (.seq (.ops [⟨(some 2), .mov (.c (.str [])), none, [6]⟩,
     ⟨(some 3), .mov (.c (.int .i64 6)), none, []⟩])
   (.ret))
   (.skip)))
  (.seq (.ops [⟨(some 7), .mov (.t 0), none, [6]⟩,
    ⟨(some 8), .lenS (.t 7), none, [7]⟩,
    ⟨(some 9), .conv .u64 (.t 8), none, [8]⟩,
    ⟨(some 10), .call (.c (.func (.func 58) [] [])) [(.t 9), (.c (.int .i64 2))], none, [9]⟩,
    ⟨(some 11), .mov (.t 0), none, [0]⟩,
    ⟨(some 12), .bin .add .none (.t 10) (.t 11), none, [11, 10]⟩,
    ⟨(some 2), .mov (.t 12), none, [12]⟩,
    ⟨(some 3), .mov (.c (.int .i64 0)), none, []⟩])
  (.ret))), 13, [.tmp 2, .tmp 3]⟩
theorem f44_ok : compF Try.prog Try.f44 [⟨0, [], [], [[2], [3]]⟩, ⟨0, [], [], [[], [4], [5]]⟩, ⟨0, [], [], [[6], []]⟩, ⟨0, [], [], [[6], [7], [8], [9], [0], [11, 10], [12], []]⟩] = some f44 := by kernel_rfl

/-! 45: polyglot/polyglotref03.Binary -/
def f45 : AFn := ⟨.seq (.ops [⟨(some 2), .mov (.c (.str [])), none, [2]⟩,
    ⟨(some 3), .mov (.c (.int .i64 0)), none, [3]⟩])
  (.seq (.seq (.ops [⟨(some 4), .mov (.t 0), none, []⟩,
    ⟨(some 5), .lenS (.t 4), none, [4]⟩,
    ⟨(some 6), .bin .gtr .none (.t 5) (.c (.int .i64 65535)), none, [5]⟩])
  (.cond (.t 6)
   (.seq (.ops [⟨(some 2), .mov (.c (.str [])), none, [6]⟩,
     ⟨(some 3), .mov (.c (.int .i64 2)), none, []⟩])
   (.ret))
   (.skip)))
  (.seq (.ops [⟨(some 7), .mov (.t 0), none, [6]⟩,
    ⟨(some 8), .lenS (.t 7), none, [7]⟩,
    ⟨(some 9), .conv .u64 (.t 8), none, [8]⟩,
    ⟨(some 10), .call (.c (.func (.func 58) [] [])) [(.t 9), (.c (.int .i64 2))], none, [9]⟩,
    ⟨(some 11), .mov (.t 0), none, [0]⟩,
    ⟨(some 12), .bin .add .none (.t 10) (.t 11), none, [11, 10]⟩,
    ⟨(some 2), .mov (.t 12), none, [12]⟩,
    ⟨(some 3), .mov (.c (.int .i64 0)), none, []⟩])
  (.ret))), 13, [.tmp 2, .tmp 3]⟩
theorem f45_ok : compF Try.prog Try.f45 [⟨0, [], [], [[2], [3]]⟩, ⟨0, [], [], [[], [4], [5]]⟩, ⟨0, [], [], [[6], []]⟩, ⟨0, [], [], [[6], [7], [8], [9], [0], [11, 10], [12], []]⟩] = some f45 := by kernel_rfl

/-! 46: polyglot/polyglotref03.Read -/
def f46 : AFn := ⟨.seq (.ops [⟨(some 2), .mov (.c (.str [])), none, [2]⟩,
    ⟨(some 3), .mov (.c (.int .i64 0)), none, [3]⟩,
    ⟨(some 4), .mov (.c (.int .i64 0)), none, [4]⟩])
  (.seq (.ops [⟨(some 9), .mov (.t 0), none, [0]⟩,
    ⟨(some 10), .call (.c (.func (.func 47) [] [])) [(.t 9)], none, [9]⟩,
    ⟨(some 8), .mov (.t 10), none, [10]⟩,
    ⟨(some 11), .extract (.t 8) 0, none, []⟩,
    ⟨(some 12), .extract (.t 8) 1, none, []⟩,
    ⟨(some 13), .extract (.t 8) 2, none, [8]⟩,
    ⟨(some 5), .mov (.t 11), none, [11]⟩,
    ⟨(some 6), .mov (.t 12), none, [12]⟩,
    ⟨(some 7), .mov (.t 13), none, [13]⟩])
  (.seq (.seq (.ops [⟨(some 14), .mov (.t 7), none, []⟩,
    ⟨(some 15), .bin .neq .none (.t 14) (.c (.int .i64 0)), none, [14]⟩])
  (.cond (.t 15)
   (.seq (.ops [⟨(some 16), .mov (.t 7), none, [15, 7]⟩,
     ⟨(some 2), .mov (.c (.str [])), none, []⟩,
     ⟨(some 3), .mov (.c (.int .i64 0)), none, []⟩,
     ⟨(some 4), .mov (.t 16), none, [16]⟩])
   (.ret))
   (.skip)))
  (.seq (.seq (.ops [⟨(some 17), .mov (.t 5), none, [15]⟩,
    ⟨(some 18), .call (.c (.func (.func 48) [] [])) [(.t 17)], none, [17]⟩,
    ⟨(some 19), .not (.t 18), none, [18]⟩])
  (.cond (.t 19)
   (.seq (.ops [⟨(some 2), .mov (.c (.str [])), none, [19]⟩,
     ⟨(some 3), .mov (.c (.int .i64 0)), none, []⟩,
     ⟨(some 4), .mov (.c (.int .i64 6)), none, []⟩])
   (.ret))
   (.skip)))
  (.seq (.ops [⟨(some 20), .mov (.t 5), none, [19, 5]⟩,
    ⟨(some 21), .mov (.t 6), none, [6]⟩,
    ⟨(some 2), .mov (.t 20), none, [20]⟩,
    ⟨(some 3), .mov (.t 21), none, [21]⟩,
    ⟨(some 4), .mov (.c (.int .i64 0)), none, []⟩])
  (.ret))))), 22, [.tmp 2, .tmp 3, .tmp 4]⟩
theorem f46_ok : compF Try.prog Try.f46 [⟨0, [], [], [[2], [3], [4]]⟩, ⟨0, [], [], [[0], [9], [10], [], [], [8], [11], [12], [13]]⟩, ⟨0, [], [], [[], [14]]⟩, ⟨0, [], [], [[15, 7], [], [], [16]]⟩, ⟨0, [], [], [[15], [17], [18]]⟩, ⟨0, [], [], [[19], [], []]⟩, ⟨0, [], [], [[19, 5], [6], [20], [21], []]⟩] = some f46 := by kernel_rfl

/-! 47: polyglot/polyglotref03.ReadBinary -/
def f47 : AFn := ⟨.seq (.ops [⟨(some 2), .mov (.c (.str [])), none, [2]⟩,
    ⟨(some 3), .mov (.c (.int .i64 0)), none, [3]⟩,
    ⟨(some 4), .mov (.c (.int .i64 0)), none, [4]⟩])
  (.seq (.seq (.ops [⟨(some 6), .mov (.t 0), none, []⟩,
    ⟨(some 7), .lenS (.t 6), none, [6]⟩,
    ⟨(some 8), .bin .lss .none (.t 7) (.c (.int .i64 2)), none, [7]⟩])
  (.cond (.t 8)
   (.seq (.ops [⟨(some 2), .mov (.c (.str [])), none, [8]⟩,
     ⟨(some 3), .mov (.c (.int .i64 0)), none, []⟩,
     ⟨(some 4), .mov (.c (.int .i64 3)), none, []⟩])
   (.ret))
   (.skip)))
  (.seq (.ops [⟨(some 9), .mov (.t 0), none, [8]⟩,
    ⟨(some 10), .substr (.t 9) none (some (.c (.int .i64 2))), none, [9]⟩,
    ⟨(some 11), .call (.c (.func (.func 56) [] [])) [(.t 10)], none, [10]⟩,
    ⟨(some 12), .conv .i64 (.t 11), none, [11]⟩,
    ⟨(some 5), .mov (.t 12), none, [12]⟩])
  (.seq (.seq (.ops [⟨(some 13), .mov (.t 5), none, []⟩,
    ⟨(some 14), .mov (.t 0), none, []⟩,
    ⟨(some 15), .lenS (.t 14), none, [14]⟩,
    ⟨(some 16), .bin .sub .none (.t 15) (.c (.int .i64 2)), none, [15]⟩,
    ⟨(some 17), .bin .gtr .none (.t 13) (.t 16), none, [16, 13]⟩])
  (.cond (.t 17)
   (.seq (.ops [⟨(some 2), .mov (.c (.str [])), none, [17]⟩,
     ⟨(some 3), .mov (.c (.int .i64 0)), none, []⟩,
     ⟨(some 4), .mov (.c (.int .i64 3)), none, []⟩])
   (.ret))
   (.skip)))
  (.seq (.ops [⟨(some 18), .mov (.t 0), none, [17, 0]⟩,
    ⟨(some 19), .mov (.t 5), none, []⟩,
    ⟨(some 20), .bin .add .none (.c (.int .i64 2)) (.t 19), none, [19]⟩,
    ⟨(some 21), .substr (.t 18) (some (.c (.int .i64 2))) (some (.t 20)), none, [20, 18]⟩,
    ⟨(some 22), .mov (.t 5), none, [5]⟩,
    ⟨(some 23), .bin .add .none (.c (.int .i64 2)) (.t 22), none, [22]⟩,
    ⟨(some 2), .mov (.t 21), none, [21]⟩,
    ⟨(some 3), .mov (.t 23), none, [23]⟩,
    ⟨(some 4), .mov (.c (.int .i64 0)), none, []⟩])
  (.ret))))), 24, [.tmp 2, .tmp 3, .tmp 4]⟩
theorem f47_ok : compF Try.prog Try.f47 [⟨0, [], [], [[2], [3], [4]]⟩, ⟨0, [], [], [[], [6], [7]]⟩, ⟨0, [], [], [[8], [], []]⟩, ⟨0, [], [], [[8], [9], [10], [11], [12]]⟩, ⟨0, [], [], [[], [], [14], [15], [16, 13]]⟩, ⟨0, [], [], [[17], [], []]⟩, ⟨0, [], [], [[17, 0], [], [19], [20, 18], [5], [22], [21], [23], []]⟩] = some f47 := by kernel_rfl

/-! 48: polyglot/polyglotref03.Valid -/
def f48 : AFn := ⟨.seq (.ops [⟨(some 2), .mov (.c (.bool false)), none, [2]⟩])
  (.seq (.ops [⟨(some 3), .mov (.t 0), none, []⟩,
    ⟨(some 4), .lenS (.t 3), none, [3]⟩,
    ⟨(some 5), .bin .leq .none (.t 4) (.c (.int .i64 65535)), none, [4]⟩,
    ⟨(some 6), .mov (.t 5), none, [5]⟩,
    ⟨(some 7), .mov (.t 0), (some (6, true)), [0]⟩,
    ⟨(some 8), .call (.c (.func (.func 49) [] [])) [(.t 7)], (some (6, true)), [7]⟩,
    ⟨(some 9), .bin .lss .none (.t 8) (.c (.int .i64 0)), (some (6, true)), [8]⟩,
    ⟨(some 10), .pick (.t 6) (.t 9) (.c (.bool false)), none, [9, 6]⟩,
    ⟨(some 2), .mov (.t 10), none, [10]⟩])
  (.ret)), 11, [.tmp 2]⟩
theorem f48_ok : compF Try.prog Try.f48 [⟨0, [], [], [[2]]⟩, ⟨0, [], [], [[], [3], [4], [5], [0], [7], [8], [9, 6], [10]]⟩] = some f48 := by kernel_rfl

/-! 49: polyglot/polyglotref03.Bad -/
def f49_M0 : List Bool := [true, false, false, true, false, false, false, false, false, false, false, false, false, false, false, false, false, false, false, false, false, false, false, false, false, false]
def f49_O0 : List Bool := [false, false, true, false, false, false, false, false, false, false, false, false, false, false, false, false, false, false, false, false, false, false, false, false, false, false]
def f49_L0 : AC := .seq (.seq (.ops [⟨(some 6), .mov (.t 3), none, []⟩,
    ⟨(some 7), .mov (.t 0), none, []⟩,
    ⟨(some 8), .lenS (.t 7), none, [7]⟩,
    ⟨(some 9), .bin .lss .none (.t 6) (.t 8), none, [8, 6]⟩])
  (.cond (.t 9)
   (.skip)
   (.exit 0)))
  (.block 1 (.seq (.ops [⟨(some 11), .mov (.t 0), none, [9]⟩,
     ⟨(some 12), .mov (.t 3), none, []⟩,
     ⟨(some 13), .call (.c (.func (.func 59) [] [])) [(.t 11), (.t 12)], none, [11, 12]⟩,
     ⟨(some 10), .mov (.t 13), none, [13]⟩,
     ⟨(some 14), .extract (.t 10) 0, none, []⟩,
     ⟨(some 15), .extract (.t 10) 1, none, [10]⟩,
     ⟨(some 4), .mov (.t 14), none, [14]⟩,
     ⟨(some 5), .mov (.t 15), none, [15]⟩])
   (.seq (.seq (.ops [⟨(some 16), .mov (.t 5), none, []⟩,
     ⟨(some 17), .bin .eql .none (.t 16) (.c (.int .i64 0)), none, [16]⟩,
     ⟨(some 18), .mov (.t 17), none, [17]⟩,
     ⟨(some 19), .mov (.t 4), (some (18, false)), [4]⟩,
     ⟨(some 20), .bin .eql .none (.t 19) (.c (.int .i64 0)), (some (18, false)), [19]⟩,
     ⟨(some 21), .pick (.t 18) (.c (.bool true)) (.t 20), none, [20, 18]⟩])
   (.cond (.t 21)
    (.seq (.ops [⟨(some 22), .mov (.t 3), none, [21, 3]⟩,
      ⟨(some 2), .mov (.t 22), none, [22]⟩])
    (.ret))
    (.skip)))
   (.ops [⟨(some 23), .mov (.t 3), none, [21, 3]⟩,
     ⟨(some 24), .mov (.t 5), none, [5]⟩,
     ⟨(some 25), .bin .add .none (.t 23) (.t 24), none, [24, 23]⟩,
     ⟨(some 3), .mov (.t 25), none, [25]⟩]))))
/-- live: [0, 3] -/
def f49_S0 (x0 x3 : KV) : List KV := [x0, .junk, .junk, x3, .junk, .junk, .junk, .junk, .junk, .junk, .junk, .junk, .junk, .junk, .junk, .junk, .junk, .junk, .junk, .junk, .junk, .junk, .junk, .junk, .junk, .junk]
/-- live: [2] -/
def f49_E0 (x2 : KV) : List KV := [.junk, .junk, x2, .junk, .junk, .junk, .junk, .junk, .junk, .junk, .junk, .junk, .junk, .junk, .junk, .junk, .junk, .junk, .junk, .junk, .junk, .junk, .junk, .junk, .junk, .junk]
def f49_D0 {α : Type} (fr : List KV) (no : α) (yes : KV → KV → α) : α :=
  match pickM f49_M0 fr with
  | some [x0, x3] => yes x0 x3
  | _ => no
theorem f49_D0_inv {β : Type} {fr : List KV} {yes : KV → KV → Option β} {r : β} (h : f49_D0 fr none yes = some r) : ∃ x0 x3, maskK f49_M0 fr = f49_S0 x0 x3 ∧ yes x0 x3 = some r := by
  unfold f49_D0 at h
  split at h
  · rename_i hp
    exact ⟨_, _, pickM_mask _ _ _ hp, h⟩
  · cases h
def f49 : AFn := ⟨.seq (.ops [⟨(some 2), .mov (.c (.int .i64 0)), none, [2]⟩])
  (.seq (.seq (.ops [⟨(some 3), .mov (.c (.int .i64 0)), none, []⟩])
  (.block 0 (.loop 0 f49_M0 f49_O0 f49_L0)))
  (.seq (.ops [⟨(some 2), .mov (.c (.int .i64 (-1))), none, [9]⟩])
  (.ret))), 26, [.tmp 2]⟩
theorem f49_ok : compF Try.prog Try.f49 [⟨0, [], [], [[2]]⟩, ⟨0, [], [], [[]]⟩, ⟨0, [true, false, false, true, false, false, false, false, false, false, false, false, false, false, false, false, false, false, false, false, false, false, false, false, false, false], [false, false, true, false, false, false, false, false, false, false, false, false, false, false, false, false, false, false, false, false, false, false, false, false, false, false], []⟩, ⟨0, [], [], [[], [], [7], [8, 6]]⟩, ⟨0, [], [], [[9], [], [11, 12], [13], [], [10], [14], [15]]⟩, ⟨0, [], [], [[], [16], [17], [4], [19], [20, 18]]⟩, ⟨0, [], [], [[21, 3], [22]]⟩, ⟨0, [], [], [[21, 3], [5], [24, 23], [25]]⟩, ⟨0, [], [], [[9]]⟩] = some f49 := by kernel_rfl

/-! 50: polyglot/polyglotref03.Count -/
def f50 : AFn := ⟨.seq (.ops [⟨(some 2), .mov (.c (.int .i64 0)), none, [2]⟩])
  (.seq (.seq (.ops [⟨(some 3), .mov (.t 0), none, []⟩,
    ⟨(some 4), .call (.c (.func (.func 48) [] [])) [(.t 3)], none, [3]⟩,
    ⟨(some 5), .not (.t 4), none, [4]⟩])
  (.cond (.t 5)
   (.seq (.ops [⟨(some 2), .mov (.c (.int .i64 0)), none, [5]⟩])
   (.ret))
   (.skip)))
  (.seq (.ops [⟨(some 6), .mov (.t 0), none, [5, 0]⟩,
    ⟨(some 7), .call (.c (.func (.func 51) [] [])) [(.t 6)], none, [6]⟩,
    ⟨(some 8), .len (.t 7), none, [7]⟩,
    ⟨(some 2), .mov (.t 8), none, [8]⟩])
  (.ret))), 9, [.tmp 2]⟩
theorem f50_ok : compF Try.prog Try.f50 [⟨0, [], [], [[2]]⟩, ⟨0, [], [], [[], [3], [4]]⟩, ⟨0, [], [], [[5]]⟩, ⟨0, [], [], [[5, 0], [6], [7], [8]]⟩] = some f50 := by kernel_rfl

/-! 51: polyglot/polyglotref03.Runes -/
def f51_M0 : List Bool := [true, false, false, true, true, false, false, false, false, false, false, false, false, false, false, false, false, false, false, false, false, false, false, false, false, false, false, false, false, false, false, false, false, false, false]
def f51_O0 : List Bool := [false, false, true, true, false, false, false, false, false, false, false, false, false, false, false, false, false, false, false, false, false, false, false, false, false, false, false, false, false, false, false, false, false, false, false]
def f51_L0 : AC := .seq (.seq (.ops [⟨(some 7), .mov (.t 4), none, []⟩,
    ⟨(some 8), .mov (.t 0), none, []⟩,
    ⟨(some 9), .lenS (.t 8), none, [8]⟩,
    ⟨(some 10), .bin .lss .none (.t 7) (.t 9), none, [9, 7]⟩])
  (.cond (.t 10)
   (.skip)
   (.exit 0)))
  (.block 1 (.seq (.ops [⟨(some 12), .mov (.t 0), none, [10]⟩,
     ⟨(some 13), .mov (.t 4), none, []⟩,
     ⟨(some 14), .call (.c (.func (.func 59) [] [])) [(.t 12), (.t 13)], none, [12, 13]⟩,
     ⟨(some 11), .mov (.t 14), none, [14]⟩,
     ⟨(some 15), .extract (.t 11) 0, none, []⟩,
     ⟨(some 16), .extract (.t 11) 1, none, [11]⟩,
     ⟨(some 5), .mov (.t 15), none, [15]⟩,
     ⟨(some 6), .mov (.t 16), none, [16]⟩])
   (.seq (.seq (.ops [⟨(some 17), .mov (.t 6), none, []⟩,
     ⟨(some 18), .bin .eql .none (.t 17) (.c (.int .i64 0)), none, [17]⟩,
     ⟨(some 19), .mov (.t 18), none, [18]⟩,
     ⟨(some 20), .mov (.t 5), (some (19, false)), []⟩,
     ⟨(some 21), .bin .eql .none (.t 20) (.c (.int .i64 0)), (some (19, false)), [20]⟩,
     ⟨(some 22), .pick (.t 19) (.c (.bool true)) (.t 21), none, [21, 19]⟩])
   (.cond (.t 22)
    (.seq (.ops [⟨(some 23), .mov (.t 3), none, [22, 3]⟩,
      ⟨(some 2), .mov (.t 23), none, [23]⟩])
    (.ret))
    (.skip)))
   (.seq (.ops [⟨(some 24), .mov (.t 3), none, [22, 3]⟩,
     ⟨(some 25), .mov (.t 4), none, []⟩,
     ⟨(some 26), .mov (.t 5), none, [5]⟩,
     ⟨(some 27), .conv .i32 (.t 26), none, [26]⟩,
     ⟨(some 28), .build [.int .i64 0, .int .i32 0] [(0, 1, (.t 25)), (1, 1, (.t 27))], none, [25, 27]⟩,
     ⟨(some 29), .buildSlice 2 1 [.junk, .junk] [(0, 2, (.t 28))], none, [28]⟩,
     ⟨(some 30), .append 2 16 (.t 24) (.t 29), none, [29, 24]⟩,
     ⟨(some 3), .mov (.t 30), none, [30]⟩])
   (.ops [⟨(some 31), .mov (.t 4), none, [4]⟩,
     ⟨(some 32), .mov (.t 6), none, [6]⟩,
     ⟨(some 33), .bin .add .none (.t 31) (.t 32), none, [32, 31]⟩,
     ⟨(some 4), .mov (.t 33), none, [33]⟩])))))
/-- live: [0, 3, 4] -/
def f51_S0 (x0 x3 x4 : KV) : List KV := [x0, .junk, .junk, x3, x4, .junk, .junk, .junk, .junk, .junk, .junk, .junk, .junk, .junk, .junk, .junk, .junk, .junk, .junk, .junk, .junk, .junk, .junk, .junk, .junk, .junk, .junk, .junk, .junk, .junk, .junk, .junk, .junk, .junk, .junk]
/-- live: [2, 3] -/
def f51_E0 (x2 x3 : KV) : List KV := [.junk, .junk, x2, x3, .junk, .junk, .junk, .junk, .junk, .junk, .junk, .junk, .junk, .junk, .junk, .junk, .junk, .junk, .junk, .junk, .junk, .junk, .junk, .junk, .junk, .junk, .junk, .junk, .junk, .junk, .junk, .junk, .junk, .junk, .junk]
def f51_D0 {α : Type} (fr : List KV) (no : α) (yes : KV → KV → KV → α) : α :=
  match pickM f51_M0 fr with
  | some [x0, x3, x4] => yes x0 x3 x4
  | _ => no
theorem f51_D0_inv {β : Type} {fr : List KV} {yes : KV → KV → KV → Option β} {r : β} (h : f51_D0 fr none yes = some r) : ∃ x0 x3 x4, maskK f51_M0 fr = f51_S0 x0 x3 x4 ∧ yes x0 x3 x4 = some r := by
  unfold f51_D0 at h
  split at h
  · rename_i hp
    exact ⟨_, _, _, pickM_mask _ _ _ hp, h⟩
  · cases h
def f51 : AFn := ⟨.seq (.ops [⟨(some 2), .mov (.c (.nilslice)), none, [2]⟩])
  (.seq (.ops [⟨(some 3), .mov (.c (.nilslice)), none, []⟩])
  (.seq (.seq (.ops [⟨(some 4), .mov (.c (.int .i64 0)), none, []⟩])
  (.block 0 (.loop 0 f51_M0 f51_O0 f51_L0)))
  (.seq (.ops [⟨(some 34), .mov (.t 3), none, [10, 3]⟩,
    ⟨(some 2), .mov (.t 34), none, [34]⟩])
  (.ret)))), 35, [.tmp 2]⟩
theorem f51_ok : compF Try.prog Try.f51 [⟨0, [], [], [[2]]⟩, ⟨0, [], [], [[]]⟩, ⟨0, [], [], [[]]⟩, ⟨0, [true, false, false, true, true, false, false, false, false, false, false, false, false, false, false, false, false, false, false, false, false, false, false, false, false, false, false, false, false, false, false, false, false, false, false], [false, false, true, true, false, false, false, false, false, false, false, false, false, false, false, false, false, false, false, false, false, false, false, false, false, false, false, false, false, false, false, false, false, false, false], []⟩, ⟨0, [], [], [[], [], [8], [9, 7]]⟩, ⟨0, [], [], [[10], [], [12, 13], [14], [], [11], [15], [16]]⟩, ⟨0, [], [], [[], [17], [18], [], [20], [21, 19]]⟩, ⟨0, [], [], [[22, 3], [23]]⟩, ⟨0, [], [], [[22, 3], [], [5], [26], [25, 27], [28], [29, 24], [30]]⟩, ⟨0, [], [], [[4], [6], [32, 31], [33]]⟩, ⟨0, [], [], [[10, 3], [34]]⟩] = some f51 := by kernel_rfl

/-! 52: polyglot/ustring.whole -/
def f52 : AFn := ⟨.seq (.ops [⟨(some 2), .mov (.c (.bool false)), none, [2]⟩])
  (.seq (.ops [⟨(some 3), .mov (.t 0), none, []⟩,
    ⟨(some 4), .lenS (.t 3), none, [3]⟩,
    ⟨(some 5), .bin .geq .none (.t 4) (.c (.int .i64 3)), none, [4]⟩,
    ⟨(some 6), .mov (.t 5), none, [5]⟩,
    ⟨(some 7), .mov (.t 0), (some (6, true)), [0]⟩,
    ⟨(some 8), .substr (.t 7) none (some (.c (.int .i64 3))), (some (6, true)), [7]⟩,
    ⟨(some 9), .bin .eql .none (.t 8) (.c (.str [239, 191, 189])), (some (6, true)), [8]⟩,
    ⟨(some 10), .pick (.t 6) (.t 9) (.c (.bool false)), none, [9, 6]⟩,
    ⟨(some 2), .mov (.t 10), none, [10]⟩])
  (.ret)), 11, [.tmp 2]⟩
theorem f52_ok : compF Try.prog Try.f52 [⟨0, [], [], [[2]]⟩, ⟨0, [], [], [[], [3], [4], [5], [0], [7], [8], [9, 6], [10]]⟩] = some f52 := by kernel_rfl

/-! 53: polyglot/ustring.Runes -/
def f53 : AFn := ⟨.seq (.ops [⟨(some 1), .box (.t 0), none, [0]⟩,
    ⟨(some 2), .mov (.c (.nilFunc)), none, [2]⟩])
  (.seq (.ops [⟨(some 3), .mkfunc (.func 60) [] [(.t 1)], none, [1]⟩,
    ⟨(some 2), .mov (.t 3), none, [3]⟩])
  (.ret)), 4, [.tmp 2]⟩
theorem f53_ok : compF Try.prog Try.f53 [⟨0, [], [], [[0], [2]]⟩, ⟨0, [], [], [[1], [3]]⟩] = some f53 := by kernel_rfl

/-! 54: (*polyglot/octet.Cursor).ready -/
def f54 : AFn := ⟨.seq (.ops [⟨(some 2), .mov (.c (.bool false)), none, [2]⟩])
  (.seq (.ops [⟨(some 3), .mov (.t 0), none, []⟩,
    ⟨(some 4), .bin .neq .ptr (.t 3) (.c (.nilptr)), none, [3]⟩,
    ⟨(some 5), .mov (.t 4), none, [4]⟩,
    ⟨(some 6), .mov (.t 0), (some (5, true)), [0]⟩,
    ⟨(some 7), .nilCheck (.t 6), (some (5, true)), [6]⟩,
    ⟨(some 8), .fieldAddr 2 (.t 7), (some (5, true)), [7]⟩,
    ⟨(some 9), .load1 (.t 8), (some (5, true)), [8]⟩,
    ⟨(some 10), .bin .eql .none (.t 9) (.c (.int .i64 0)), (some (5, true)), [9]⟩,
    ⟨(some 11), .pick (.t 5) (.t 10) (.c (.bool false)), none, [10, 5]⟩,
    ⟨(some 2), .mov (.t 11), none, [11]⟩])
  (.ret)), 12, [.tmp 2]⟩
theorem f54_ok : compF Try.prog Try.f54 [⟨0, [], [], [[2]]⟩, ⟨0, [], [], [[], [3], [4], [0], [6], [7], [8], [9], [10, 5], [11]]⟩] = some f54 := by kernel_rfl

/-! 55: (*polyglot/octet.Cursor).has -/
def f55 : AFn := ⟨.seq (.ops [⟨(some 4), .mov (.c (.bool false)), none, [4]⟩])
  (.seq (.quiet [⟨(some 5), .mov (.t 1), none, []⟩,
    ⟨(some 6), .bin .geq .none (.t 5) (.c (.int .i64 0)), none, [5]⟩,
    ⟨(some 7), .mov (.t 6), none, [6]⟩,
    ⟨(some 8), .mov (.t 1), (some (7, true)), [1]⟩,
    ⟨(some 9), .mov (.t 0), (some (7, true)), []⟩,
    ⟨(some 10), .nilCheck (.t 9), (some (7, true)), [9]⟩,
    ⟨(some 11), .fieldAddr 0 (.t 10), (some (7, true)), [10]⟩,
    ⟨(some 12), .load1 (.t 11), (some (7, true)), [11]⟩,
    ⟨(some 13), .lenS (.t 12), (some (7, true)), [12]⟩,
    ⟨(some 14), .mov (.t 0), (some (7, true)), [0]⟩,
    ⟨(some 15), .nilCheck (.t 14), (some (7, true)), [14]⟩,
    ⟨(some 16), .fieldAddr 1 (.t 15), (some (7, true)), [15]⟩,
    ⟨(some 17), .load1 (.t 16), (some (7, true)), [16]⟩,
    ⟨(some 18), .bin .sub .none (.t 13) (.t 17), (some (7, true)), [17, 13]⟩,
    ⟨(some 19), .bin .leq .none (.t 8) (.t 18), (some (7, true)), [18, 8]⟩,
    ⟨(some 20), .pick (.t 7) (.t 19) (.c (.bool false)), none, [19, 7]⟩,
    ⟨(some 4), .mov (.t 20), none, [20]⟩])
  (.ret)), 21, [.tmp 4]⟩
theorem f55_ok : compF Try.prog Try.f55 [⟨0, [], [], [[4]]⟩, ⟨0, [], [], [[], [5], [6], [1], [], [9], [10], [11], [12], [0], [14], [15], [16], [17, 13], [18, 8], [19, 7], [20]]⟩] = some f55 := by kernel_rfl

/-! 56: polyglot/polyglotref01.Get -/
def f56_M0 : List Bool := [true, false, false, true, true, false, false, false, false, false, false, false, false, false, false, false, false, false, false, false, false, false, false]
def f56_O0 : List Bool := [false, false, false, true, false, false, false, false, false, false, false, false, false, false, false, false, false, false, false, false, false, false, false]
def f56_L0 : AC := .seq (.seq (.ops [⟨(some 9), .mov (.t 4), none, []⟩,
    ⟨(some 10), .mov (.t 0), none, []⟩,
    ⟨(some 11), .lenS (.t 10), none, [10]⟩,
    ⟨(some 12), .bin .lss .none (.t 9) (.t 11), none, [11, 9]⟩])
  (.cond (.t 12)
   (.skip)
   (.exit 0)))
  (.seq (.block 1 (.ops [⟨(some 15), .mov (.t 3), none, [12, 3]⟩,
     ⟨(some 16), .bin .shl .none (.t 15) (.c (.int .u64 8)), none, [15]⟩,
     ⟨(some 17), .mov (.t 0), none, []⟩,
     ⟨(some 18), .mov (.t 4), none, []⟩,
     ⟨(some 19), .indexStr (.t 17) (.t 18), none, [18, 17]⟩,
     ⟨(some 20), .conv .u64 (.t 19), none, [19]⟩,
     ⟨(some 21), .bin .or .none (.t 16) (.t 20), none, [20, 16]⟩,
     ⟨(some 3), .mov (.t 21), none, [21]⟩]))
  (.ops [⟨(some 13), .mov (.t 4), none, [4]⟩,
    ⟨(some 14), .bin .add .none (.t 13) (.c (.int .i64 1)), none, [13]⟩,
    ⟨(some 4), .mov (.t 14), none, [14]⟩]))
/-- live: [0, 3, 4] -/
def f56_S0 (x0 x3 x4 : KV) : List KV := [x0, .junk, .junk, x3, x4, .junk, .junk, .junk, .junk, .junk, .junk, .junk, .junk, .junk, .junk, .junk, .junk, .junk, .junk, .junk, .junk, .junk, .junk]
/-- live: [3] -/
def f56_E0 (x3 : KV) : List KV := [.junk, .junk, .junk, x3, .junk, .junk, .junk, .junk, .junk, .junk, .junk, .junk, .junk, .junk, .junk, .junk, .junk, .junk, .junk, .junk, .junk, .junk, .junk]
def f56_D0 {α : Type} (fr : List KV) (no : α) (yes : KV → KV → KV → α) : α :=
  match pickM f56_M0 fr with
  | some [x0, x3, x4] => yes x0 x3 x4
  | _ => no
theorem f56_D0_inv {β : Type} {fr : List KV} {yes : KV → KV → KV → Option β} {r : β} (h : f56_D0 fr none yes = some r) : ∃ x0 x3 x4, maskK f56_M0 fr = f56_S0 x0 x3 x4 ∧ yes x0 x3 x4 = some r := by
  unfold f56_D0 at h
  split at h
  · rename_i hp
    exact ⟨_, _, _, pickM_mask _ _ _ hp, h⟩
  · cases h
def f56 : AFn := ⟨.seq (.ops [⟨(some 2), .mov (.c (.int .u64 0)), none, [2]⟩])
  (.seq (.ops [⟨(some 3), .mov (.c (.int .u64 0)), none, []⟩])
  (.seq (.seq (.ops [⟨(some 5), .mov (.t 0), none, []⟩,
    ⟨(some 6), .lenS (.t 5), none, [5]⟩,
    ⟨(some 7), .bin .sub .none (.t 6) (.c (.int .i64 8)), none, [6]⟩,
    ⟨(some 8), .max (.c (.int .i64 0)) (.t 7), none, [7]⟩,
    ⟨(some 4), .mov (.t 8), none, [8]⟩])
  (.block 0 (.loop 0 f56_M0 f56_O0 f56_L0)))
  (.seq (.ops [⟨(some 22), .mov (.t 3), none, [12, 3]⟩,
    ⟨(some 2), .mov (.t 22), none, [22]⟩])
  (.ret)))), 23, [.tmp 2]⟩
theorem f56_ok : compF Try.prog Try.f56 [⟨0, [], [], [[2]]⟩, ⟨0, [], [], [[]]⟩, ⟨0, [], [], [[], [5], [6], [7], [8]]⟩, ⟨0, [true, false, false, true, true, false, false, false, false, false, false, false, false, false, false, false, false, false, false, false, false, false, false], [false, false, false, true, false, false, false, false, false, false, false, false, false, false, false, false, false, false, false, false, false, false, false], []⟩, ⟨0, [], [], [[], [], [10], [11, 9]]⟩, ⟨0, [], [], [[12, 3], [15], [], [], [18, 17], [19], [20, 16], [21]]⟩, ⟨0, [], [], [[4], [13], [14]]⟩, ⟨0, [], [], [[12, 3], [22]]⟩] = some f56 := by kernel_rfl

/-! 57: polyglot/ustring.framed -/
def f57 : AFn := ⟨.seq (.ops [⟨(some 2), .mov (.c (.str [])), none, [2]⟩])
  (.seq (.ops [⟨(some 3), .mov (.t 0), none, []⟩,
    ⟨(some 4), .lenS (.t 3), none, [3]⟩,
    ⟨(some 5), .conv .u64 (.t 4), none, [4]⟩,
    ⟨(some 6), .call (.c (.func (.func 14) [] [])) [(.t 5), (.c (.int .i64 2))], none, [5]⟩,
    ⟨(some 7), .mov (.t 0), none, [0]⟩,
    ⟨(some 8), .bin .add .none (.t 6) (.t 7), none, [7, 6]⟩,
    ⟨(some 2), .mov (.t 8), none, [8]⟩])
  (.ret)), 9, [.tmp 2]⟩
theorem f57_ok : compF Try.prog Try.f57 [⟨0, [], [], [[2]]⟩, ⟨0, [], [], [[], [3], [4], [5], [0], [7, 6], [8]]⟩] = some f57 := by kernel_rfl

/-! 58: polyglot/polyglotref01.Put -/
def f58_M0 : List Bool := [true, false, false, false, false, true, true, false, false, false, false, false, false, false, false, false, false, false, false, false, false, false, false, false, false, false, false, false, false, false]
def f58_O0 : List Bool := [false, false, false, false, false, true, false, false, false, false, false, false, false, false, false, false, false, false, false, false, false, false, false, false, false, false, false, false, false, false]
def f58_L0 : AC := .seq (.seq (.ops [⟨(some 12), .mov (.t 6), none, []⟩,
    ⟨(some 13), .bin .geq .none (.t 12) (.c (.int .i64 0)), none, [12]⟩])
  (.cond (.t 13)
   (.skip)
   (.exit 0)))
  (.seq (.block 1 (.seq (.ops [⟨(some 7), .mov (.c (.int .u8 0)), none, [13]⟩])
   (.seq (.seq (.ops [⟨(some 16), .mov (.t 6), none, []⟩,
     ⟨(some 17), .bin .lss .none (.t 16) (.c (.int .i64 8)), none, [16]⟩])
   (.cond (.t 17)
    (.ops [⟨(some 18), .mov (.t 0), none, [17]⟩,
      ⟨(some 19), .mov (.t 6), none, []⟩,
      ⟨(some 20), .bin .mul .none (.c (.int .i64 8)) (.t 19), none, [19]⟩,
      ⟨(some 21), .conv .u64 (.t 20), none, [20]⟩,
      ⟨(some 22), .bin .shr .none (.t 18) (.t 21), none, [21, 18]⟩,
      ⟨(some 23), .conv .u8 (.t 22), none, [22]⟩,
      ⟨(some 7), .mov (.t 23), none, [23]⟩])
    (.skip)))
   (.ops [⟨(some 24), .mov (.t 5), none, [17, 5]⟩,
     ⟨(some 25), .mov (.t 7), none, [7]⟩,
     ⟨(some 26), .buildSlice 1 1 [.junk] [(0, 1, (.t 25))], none, [25]⟩,
     ⟨(some 27), .append 1 1 (.t 24) (.t 26), none, [26, 24]⟩,
     ⟨(some 5), .mov (.t 27), none, [27]⟩]))))
  (.ops [⟨(some 14), .mov (.t 6), none, [6]⟩,
    ⟨(some 15), .bin .sub .none (.t 14) (.c (.int .i64 1)), none, [14]⟩,
    ⟨(some 6), .mov (.t 15), none, [15]⟩]))
/-- live: [0, 5, 6] -/
def f58_S0 (x0 x5 x6 : KV) : List KV := [x0, .junk, .junk, .junk, .junk, x5, x6, .junk, .junk, .junk, .junk, .junk, .junk, .junk, .junk, .junk, .junk, .junk, .junk, .junk, .junk, .junk, .junk, .junk, .junk, .junk, .junk, .junk, .junk, .junk]
/-- live: [5] -/
def f58_E0 (x5 : KV) : List KV := [.junk, .junk, .junk, .junk, .junk, x5, .junk, .junk, .junk, .junk, .junk, .junk, .junk, .junk, .junk, .junk, .junk, .junk, .junk, .junk, .junk, .junk, .junk, .junk, .junk, .junk, .junk, .junk, .junk, .junk]
def f58_D0 {α : Type} (fr : List KV) (no : α) (yes : KV → KV → KV → α) : α :=
  match pickM f58_M0 fr with
  | some [x0, x5, x6] => yes x0 x5 x6
  | _ => no
theorem f58_D0_inv {β : Type} {fr : List KV} {yes : KV → KV → KV → Option β} {r : β} (h : f58_D0 fr none yes = some r) : ∃ x0 x5 x6, maskK f58_M0 fr = f58_S0 x0 x5 x6 ∧ yes x0 x5 x6 = some r := by
  unfold f58_D0 at h
  split at h
  · rename_i hp
    exact ⟨_, _, _, pickM_mask _ _ _ hp, h⟩
  · cases h
def f58 : AFn := ⟨.seq (.ops [⟨(some 4), .mov (.c (.str [])), none, [4]⟩])
  (.seq (.ops [⟨(some 5), .mov (.c (.nilslice)), none, []⟩])
  (.seq (.seq (.ops [⟨(some 8), .mov (.t 1), none, [1]⟩,
    ⟨(some 9), .min (.t 8) (.c (.int .i64 16)), none, [8]⟩,
    ⟨(some 10), .max (.c (.int .i64 0)) (.t 9), none, [9]⟩,
    ⟨(some 11), .bin .sub .none (.t 10) (.c (.int .i64 1)), none, [10]⟩,
    ⟨(some 6), .mov (.t 11), none, [11]⟩])
  (.block 0 (.loop 0 f58_M0 f58_O0 f58_L0)))
  (.seq (.ops [⟨(some 28), .mov (.t 5), none, [13, 5]⟩,
    ⟨(some 29), .b2s (.t 28), none, [28]⟩,
    ⟨(some 4), .mov (.t 29), none, [29]⟩])
  (.ret)))), 30, [.tmp 4]⟩
theorem f58_ok : compF Try.prog Try.f58 [⟨0, [], [], [[4]]⟩, ⟨0, [], [], [[]]⟩, ⟨0, [], [], [[1], [8], [9], [10], [11]]⟩, ⟨0, [true, false, false, false, false, true, true, false, false, false, false, false, false, false, false, false, false, false, false, false, false, false, false, false, false, false, false, false, false, false], [false, false, false, false, false, true, false, false, false, false, false, false, false, false, false, false, false, false, false, false, false, false, false, false, false, false, false, false, false, false], []⟩, ⟨0, [], [], [[], [12]]⟩, ⟨0, [], [], [[13]]⟩, ⟨0, [], [], [[], [16]]⟩, ⟨0, [], [], [[17], [], [19], [20], [21, 18], [22], [23]]⟩, ⟨0, [], [], [[17, 5], [7], [25], [26, 24], [27]]⟩, ⟨0, [], [], [[6], [14], [15]]⟩, ⟨0, [], [], [[13, 5], [28], [29]]⟩] = some f58 := by kernel_rfl

/-! 59: polyglot/polyglotref03.Point -/
def f59_M0 : List Bool := [true, true, false, false, false, false, true, true, true, true, false, false, false, false, false, false, false, false, false, false, false, false, false, false, false, false, false, false, false, false, false, false, false, false, false, false, false, false, false, false, false, false, false, false, false, false, false, false, false, false, false, false, false, false, false, false, false, false, false, false, false, false, false, false, false, false, false, false, false, false, false, false, false, false, false, false, false, false, false, false, false, false, false]
def f59_O0 : List Bool := [false, false, false, false, true, true, true, true, true, false, false, false, false, false, false, false, false, false, false, false, false, false, false, false, false, false, false, false, false, false, false, false, false, false, false, false, false, false, false, false, false, false, false, false, false, false, false, false, false, false, false, false, false, false, false, false, false, false, false, false, false, false, false, false, false, false, false, false, false, false, false, false, false, false, false, false, false, false, false, false, false, false, false]
def f59_L0 : AC := .seq (.seq (.ops [⟨(some 47), .mov (.t 9), none, []⟩,
    ⟨(some 48), .mov (.t 7), none, []⟩,
    ⟨(some 49), .bin .lss .none (.t 47) (.t 48), none, [48, 47]⟩])
  (.cond (.t 49)
   (.skip)
   (.exit 1)))
  (.seq (.block 2 (.seq (.ops [⟨(some 53), .mov (.t 0), none, [49]⟩,
     ⟨(some 54), .mov (.t 1), none, []⟩,
     ⟨(some 55), .mov (.t 9), none, []⟩,
     ⟨(some 56), .bin .add .none (.t 54) (.t 55), none, [55, 54]⟩,
     ⟨(some 57), .call (.c (.func (.func 61) [] [])) [(.t 53), (.t 56)], none, [53, 56]⟩,
     ⟨(some 52), .mov (.t 57), none, [57]⟩,
     ⟨(some 58), .extract (.t 52) 0, none, []⟩,
     ⟨(some 59), .extract (.t 52) 1, none, [52]⟩,
     ⟨(some 10), .mov (.t 58), none, [58]⟩,
     ⟨(some 11), .mov (.t 59), none, [59]⟩])
   (.seq (.seq (.ops [⟨(some 60), .mov (.t 11), none, [11]⟩,
     ⟨(some 61), .not (.t 60), none, [60]⟩])
   (.cond (.t 61)
    (.seq (.ops [⟨(some 4), .mov (.c (.int .i64 0)), none, [61]⟩,
      ⟨(some 5), .mov (.c (.int .i64 0)), none, []⟩])
    (.ret))
    (.skip)))
   (.ops [⟨(some 62), .mov (.t 6), none, [61, 6]⟩,
     ⟨(some 63), .bin .mul .none (.c (.int .i64 64)) (.t 62), none, [62]⟩,
     ⟨(some 64), .mov (.t 10), none, [10]⟩,
     ⟨(some 65), .bin .add .none (.t 63) (.t 64), none, [64, 63]⟩,
     ⟨(some 6), .mov (.t 65), none, [65]⟩]))))
  (.ops [⟨(some 50), .mov (.t 9), none, [9]⟩,
    ⟨(some 51), .bin .add .none (.t 50) (.c (.int .i64 1)), none, [50]⟩,
    ⟨(some 9), .mov (.t 51), none, [51]⟩]))
/-- live: [0, 1, 6, 7, 8, 9] -/
def f59_S0 (x0 x1 x6 x7 x8 x9 : KV) : List KV := [x0, x1, .junk, .junk, .junk, .junk, x6, x7, x8, x9, .junk, .junk, .junk, .junk, .junk, .junk, .junk, .junk, .junk, .junk, .junk, .junk, .junk, .junk, .junk, .junk, .junk, .junk, .junk, .junk, .junk, .junk, .junk, .junk, .junk, .junk, .junk, .junk, .junk, .junk, .junk, .junk, .junk, .junk, .junk, .junk, .junk, .junk, .junk, .junk, .junk, .junk, .junk, .junk, .junk, .junk, .junk, .junk, .junk, .junk, .junk, .junk, .junk, .junk, .junk, .junk, .junk, .junk, .junk, .junk, .junk, .junk, .junk, .junk, .junk, .junk, .junk, .junk, .junk, .junk, .junk, .junk, .junk]
/-- live: [4, 5, 6, 7, 8] -/
def f59_E0 (x4 x5 x6 x7 x8 : KV) : List KV := [.junk, .junk, .junk, .junk, x4, x5, x6, x7, x8, .junk, .junk, .junk, .junk, .junk, .junk, .junk, .junk, .junk, .junk, .junk, .junk, .junk, .junk, .junk, .junk, .junk, .junk, .junk, .junk, .junk, .junk, .junk, .junk, .junk, .junk, .junk, .junk, .junk, .junk, .junk, .junk, .junk, .junk, .junk, .junk, .junk, .junk, .junk, .junk, .junk, .junk, .junk, .junk, .junk, .junk, .junk, .junk, .junk, .junk, .junk, .junk, .junk, .junk, .junk, .junk, .junk, .junk, .junk, .junk, .junk, .junk, .junk, .junk, .junk, .junk, .junk, .junk, .junk, .junk, .junk, .junk, .junk, .junk]
def f59_D0 {α : Type} (fr : List KV) (no : α) (yes : KV → KV → KV → KV → KV → KV → α) : α :=
  match pickM f59_M0 fr with
  | some [x0, x1, x6, x7, x8, x9] => yes x0 x1 x6 x7 x8 x9
  | _ => no
theorem f59_D0_inv {β : Type} {fr : List KV} {yes : KV → KV → KV → KV → KV → KV → Option β} {r : β} (h : f59_D0 fr none yes = some r) : ∃ x0 x1 x6 x7 x8 x9, maskK f59_M0 fr = f59_S0 x0 x1 x6 x7 x8 x9 ∧ yes x0 x1 x6 x7 x8 x9 = some r := by
  unfold f59_D0 at h
  split at h
  · rename_i hp
    exact ⟨_, _, _, _, _, _, pickM_mask _ _ _ hp, h⟩
  · cases h
def f59 : AFn := ⟨.seq (.ops [⟨(some 4), .mov (.c (.int .i64 0)), none, [4]⟩,
    ⟨(some 5), .mov (.c (.int .i64 0)), none, [5]⟩])
  (.seq (.ops [⟨(some 12), .mov (.t 0), none, []⟩,
    ⟨(some 13), .mov (.t 1), none, []⟩,
    ⟨(some 14), .indexStr (.t 12) (.t 13), none, [13, 12]⟩,
    ⟨(some 15), .conv .i64 (.t 14), none, [14]⟩,
    ⟨(some 6), .mov (.t 15), none, [15]⟩,
    ⟨(some 7), .mov (.c (.int .i64 1)), none, [7]⟩,
    ⟨(some 8), .mov (.c (.int .i64 0)), none, [8]⟩])
  (.seq (.block 0 (.seq (.ops [⟨(some 17), .mov (.t 6), none, []⟩,
     ⟨(some 18), .bin .lss .none (.t 17) (.c (.int .i64 128)), none, [17]⟩,
     ⟨(some 16), .mov (.t 18), none, [18]⟩])
   (.cond (.t 16)
    (.seq (.ops [⟨(some 19), .mov (.t 6), none, [16, 6]⟩,
      ⟨(some 4), .mov (.t 19), none, [19]⟩,
      ⟨(some 5), .mov (.c (.int .i64 1)), none, []⟩])
    (.ret))
    (.seq (.ops [⟨(some 21), .mov (.t 6), none, [16]⟩,
      ⟨(some 22), .bin .geq .none (.t 21) (.c (.int .i64 192)), none, [21]⟩,
      ⟨(some 23), .mov (.t 22), none, [22]⟩,
      ⟨(some 24), .mov (.t 6), (some (23, true)), []⟩,
      ⟨(some 25), .bin .lss .none (.t 24) (.c (.int .i64 224)), (some (23, true)), [24]⟩,
      ⟨(some 26), .pick (.t 23) (.t 25) (.c (.bool false)), none, [25, 23]⟩,
      ⟨(some 20), .mov (.t 26), none, [26]⟩])
    (.cond (.t 20)
     (.ops [⟨(some 27), .mov (.t 6), none, [20, 6]⟩,
       ⟨(some 28), .bin .sub .none (.t 27) (.c (.int .i64 192)), none, [27]⟩,
       ⟨(some 6), .mov (.t 28), none, [28]⟩,
       ⟨(some 7), .mov (.c (.int .i64 2)), none, []⟩,
       ⟨(some 8), .mov (.c (.int .i64 128)), none, []⟩])
     (.seq (.ops [⟨(some 30), .mov (.t 6), none, [20]⟩,
       ⟨(some 31), .bin .geq .none (.t 30) (.c (.int .i64 224)), none, [30]⟩,
       ⟨(some 32), .mov (.t 31), none, [31]⟩,
       ⟨(some 33), .mov (.t 6), (some (32, true)), []⟩,
       ⟨(some 34), .bin .lss .none (.t 33) (.c (.int .i64 240)), (some (32, true)), [33]⟩,
       ⟨(some 35), .pick (.t 32) (.t 34) (.c (.bool false)), none, [34, 32]⟩,
       ⟨(some 29), .mov (.t 35), none, [35]⟩])
     (.cond (.t 29)
      (.ops [⟨(some 36), .mov (.t 6), none, [29, 6]⟩,
        ⟨(some 37), .bin .sub .none (.t 36) (.c (.int .i64 224)), none, [36]⟩,
        ⟨(some 6), .mov (.t 37), none, [37]⟩,
        ⟨(some 7), .mov (.c (.int .i64 3)), none, []⟩,
        ⟨(some 8), .mov (.c (.int .i64 2048)), none, []⟩])
      (.seq (.ops [⟨(some 39), .mov (.t 6), none, [29]⟩,
        ⟨(some 40), .bin .geq .none (.t 39) (.c (.int .i64 240)), none, [39]⟩,
        ⟨(some 41), .mov (.t 40), none, [40]⟩,
        ⟨(some 42), .mov (.t 6), (some (41, true)), []⟩,
        ⟨(some 43), .bin .lss .none (.t 42) (.c (.int .i64 248)), (some (41, true)), [42]⟩,
        ⟨(some 44), .pick (.t 41) (.t 43) (.c (.bool false)), none, [43, 41]⟩,
        ⟨(some 38), .mov (.t 44), none, [44]⟩])
      (.cond (.t 38)
       (.ops [⟨(some 45), .mov (.t 6), none, [38, 6]⟩,
         ⟨(some 46), .bin .sub .none (.t 45) (.c (.int .i64 240)), none, [45]⟩,
         ⟨(some 6), .mov (.t 46), none, [46]⟩,
         ⟨(some 7), .mov (.c (.int .i64 4)), none, []⟩,
         ⟨(some 8), .mov (.c (.int .i64 65536)), none, []⟩])
       (.seq (.ops [⟨(some 4), .mov (.c (.int .i64 0)), none, [38]⟩,
         ⟨(some 5), .mov (.c (.int .i64 0)), none, []⟩])
       (.ret)))))))))))
  (.seq (.seq (.ops [⟨(some 9), .mov (.c (.int .i64 1)), none, []⟩])
  (.block 1 (.loop 0 f59_M0 f59_O0 f59_L0)))
  (.seq (.seq (.ops [⟨(some 66), .mov (.t 6), none, [49]⟩,
    ⟨(some 67), .mov (.t 8), none, [8]⟩,
    ⟨(some 68), .bin .lss .none (.t 66) (.t 67), none, [67, 66]⟩,
    ⟨(some 69), .mov (.t 68), none, [68]⟩,
    ⟨(some 70), .mov (.t 6), (some (69, false)), []⟩,
    ⟨(some 71), .bin .gtr .none (.t 70) (.c (.int .i64 1114111)), (some (69, false)), [70]⟩,
    ⟨(some 72), .pick (.t 69) (.c (.bool true)) (.t 71), none, [71, 69]⟩,
    ⟨(some 73), .mov (.t 72), none, [72]⟩,
    ⟨(some 74), .mov (.t 6), (some (73, false)), []⟩,
    ⟨(some 75), .bin .geq .none (.t 74) (.c (.int .i64 55296)), (some (73, false)), [74]⟩,
    ⟨(some 76), .mov (.t 75), (some (73, false)), [75]⟩,
    ⟨(some 77), .mov (.t 6), (some (76, true)), []⟩,
    ⟨(some 78), .bin .leq .none (.t 77) (.c (.int .i64 57343)), (some (76, true)), [77]⟩,
    ⟨(some 79), .pick (.t 76) (.t 78) (.c (.bool false)), (some (73, false)), [78, 76]⟩,
    ⟨(some 80), .pick (.t 73) (.c (.bool true)) (.t 79), none, [79, 73]⟩])
  (.cond (.t 80)
   (.seq (.ops [⟨(some 4), .mov (.c (.int .i64 0)), none, [80]⟩,
     ⟨(some 5), .mov (.c (.int .i64 0)), none, []⟩])
   (.ret))
   (.skip)))
  (.seq (.ops [⟨(some 81), .mov (.t 6), none, [80, 6]⟩,
    ⟨(some 82), .mov (.t 7), none, [7]⟩,
    ⟨(some 4), .mov (.t 81), none, [81]⟩,
    ⟨(some 5), .mov (.t 82), none, [82]⟩])
  (.ret)))))), 83, [.tmp 4, .tmp 5]⟩
theorem f59_ok : compF Try.prog Try.f59 [⟨0, [], [], [[4], [5]]⟩, ⟨0, [], [], [[], [], [13, 12], [14], [15], [7], [8]]⟩, ⟨0, [], [], [[], [17], [18]]⟩, ⟨0, [], [], [[16, 6], [19], []]⟩, ⟨0, [], [], [[16], [21], [22], [], [24], [25, 23], [26]]⟩, ⟨0, [], [], [[20, 6], [27], [28], [], []]⟩, ⟨0, [], [], [[20], [30], [31], [], [33], [34, 32], [35]]⟩, ⟨0, [], [], [[29, 6], [36], [37], [], []]⟩, ⟨0, [], [], [[29], [39], [40], [], [42], [43, 41], [44]]⟩, ⟨0, [], [], [[38, 6], [45], [46], [], []]⟩, ⟨0, [], [], [[38], []]⟩, ⟨0, [], [], [[]]⟩, ⟨0, [true, true, false, false, false, false, true, true, true, true, false, false, false, false, false, false, false, false, false, false, false, false, false, false, false, false, false, false, false, false, false, false, false, false, false, false, false, false, false, false, false, false, false, false, false, false, false, false, false, false, false, false, false, false, false, false, false, false, false, false, false, false, false, false, false, false, false, false, false, false, false, false, false, false, false, false, false, false, false, false, false, false, false], [false, false, false, false, true, true, true, true, true, false, false, false, false, false, false, false, false, false, false, false, false, false, false, false, false, false, false, false, false, false, false, false, false, false, false, false, false, false, false, false, false, false, false, false, false, false, false, false, false, false, false, false, false, false, false, false, false, false, false, false, false, false, false, false, false, false, false, false, false, false, false, false, false, false, false, false, false, false, false, false, false, false, false], []⟩, ⟨0, [], [], [[], [], [48, 47]]⟩, ⟨0, [], [], [[49], [], [], [55, 54], [53, 56], [57], [], [52], [58], [59]]⟩, ⟨0, [], [], [[11], [60]]⟩, ⟨0, [], [], [[61], []]⟩, ⟨0, [], [], [[61, 6], [62], [10], [64, 63], [65]]⟩, ⟨0, [], [], [[9], [50], [51]]⟩, ⟨0, [], [], [[49], [8], [67, 66], [68], [], [70], [71, 69], [72], [], [74], [75], [], [77], [78, 76], [79, 73]]⟩, ⟨0, [], [], [[80], []]⟩, ⟨0, [], [], [[80, 6], [7], [81], [82]]⟩] = some f59 := by kernel_rfl

/-! 60: polyglot/ustring.Runes$1 -/
def f60_M0 : List Bool := [true, false, false, false, false, false, false, false, false, false, false, false, false, false, false, true, false, false, false, false, false, false, false, false, false]
def f60_O0 : List Bool := [false, false, false, false, false, false, false, false, false, false, false, false, false, false, false, false, false, false, false, false, false, false, false, false, false]
def f60_L0 : AC := .seq (.ops [⟨(some 16), .next (.t 15), none, []⟩,
    ⟨(some 17), .extract (.t 16) 0, none, []⟩])
  (.seq (.cond (.t 17)
   (.skip)
   (.exit 0))
  (.block 1 (.seq (.ops [⟨(some 18), .extract (.t 16) 1, none, [17]⟩,
     ⟨(some 19), .extract (.t 16) 2, none, [16]⟩,
     ⟨(some 4), .mov (.t 18), none, [18]⟩,
     ⟨(some 5), .mov (.t 19), none, [19]⟩])
   (.seq (.ops [⟨(some 20), .mov (.t 0), none, []⟩,
     ⟨(some 21), .mov (.t 4), none, [4]⟩,
     ⟨(some 22), .mov (.t 5), none, [5]⟩,
     ⟨(some 23), .call (.t 20) [(.t 21), (.t 22)], none, [21, 22, 20]⟩,
     ⟨(some 24), .not (.t 23), none, [23]⟩])
   (.cond (.t 24)
    (.ret)
    (.skip))))))
/-- live: [0, 15] -/
def f60_S0 (x0 x15 : KV) : List KV := [x0, .junk, .junk, .junk, .junk, .junk, .junk, .junk, .junk, .junk, .junk, .junk, .junk, .junk, .junk, x15, .junk, .junk, .junk, .junk, .junk, .junk, .junk, .junk, .junk]
/-- live: [] -/
def f60_E0 : List KV := [.junk, .junk, .junk, .junk, .junk, .junk, .junk, .junk, .junk, .junk, .junk, .junk, .junk, .junk, .junk, .junk, .junk, .junk, .junk, .junk, .junk, .junk, .junk, .junk, .junk]
def f60_D0 {α : Type} (fr : List KV) (no : α) (yes : KV → KV → α) : α :=
  match pickM f60_M0 fr with
  | some [x0, x15] => yes x0 x15
  | _ => no
theorem f60_D0_inv {β : Type} {fr : List KV} {yes : KV → KV → Option β} {r : β} (h : f60_D0 fr none yes = some r) : ∃ x0 x15, maskK f60_M0 fr = f60_S0 x0 x15 ∧ yes x0 x15 = some r := by
  unfold f60_D0 at h
  split at h
  · rename_i hp
    exact ⟨_, _, pickM_mask _ _ _ hp, h⟩
  · cases h
def f60 : AFn := ⟨.seq (.ops [⟨(some 6), .load1 (.t 1), none, []⟩,
    ⟨(some 7), .call (.c (.func (.func 19) [] [])) [(.t 6)], none, [6]⟩,
    ⟨(some 3), .mov (.t 7), none, [7]⟩])
  (.seq (.seq (.ops [⟨(some 8), .mov (.t 3), none, []⟩,
    ⟨(some 9), .bin .lss .none (.t 8) (.c (.int .i64 0)), none, [8]⟩])
  (.cond (.t 9)
   (.ops [⟨(some 10), .load1 (.t 1), none, [9]⟩,
     ⟨(some 11), .lenS (.t 10), none, [10]⟩,
     ⟨(some 3), .mov (.t 11), none, [11]⟩])
   (.skip)))
  (.seq (.ops [⟨(some 12), .load1 (.t 1), none, [9, 1]⟩,
    ⟨(some 13), .mov (.t 3), none, [3]⟩,
    ⟨(some 14), .substr (.t 12) none (some (.t 13)), none, [13, 12]⟩,
    ⟨(some 15), .range (.t 14), none, [14]⟩])
  (.block 0 (.loop 0 f60_M0 f60_O0 f60_L0)))), 25, []⟩
theorem f60_ok : compF Try.prog Try.f60 [⟨0, [], [], [[], [6], [7]]⟩, ⟨0, [], [], [[], [8]]⟩, ⟨0, [], [], [[9], [10], [11]]⟩, ⟨0, [], [], [[9, 1], [3], [13, 12], [14]]⟩, ⟨0, [true, false, false, false, false, false, false, false, false, false, false, false, false, false, false, true, false, false, false, false, false, false, false, false, false], [false, false, false, false, false, false, false, false, false, false, false, false, false, false, false, false, false, false, false, false, false, false, false, false, false], []⟩, ⟨0, [], [], [[], []]⟩, ⟨0, [], [], [[17], [16], [18], [19]]⟩, ⟨0, [], [], [[], [4], [5], [21, 22, 20], [23]]⟩] = some f60 := by kernel_rfl

/-! 61: polyglot/polyglotref03.more -/
def f61 : AFn := ⟨.seq (.ops [⟨(some 4), .mov (.c (.int .i64 0)), none, [4]⟩,
    ⟨(some 5), .mov (.c (.bool false)), none, [5]⟩])
  (.seq (.seq (.ops [⟨(some 6), .mov (.t 1), none, []⟩,
    ⟨(some 7), .mov (.t 0), none, []⟩,
    ⟨(some 8), .lenS (.t 7), none, [7]⟩,
    ⟨(some 9), .bin .geq .none (.t 6) (.t 8), none, [8, 6]⟩,
    ⟨(some 10), .mov (.t 9), none, [9]⟩,
    ⟨(some 11), .mov (.t 0), (some (10, false)), []⟩,
    ⟨(some 12), .mov (.t 1), (some (10, false)), []⟩,
    ⟨(some 13), .indexStr (.t 11) (.t 12), (some (10, false)), [12, 11]⟩,
    ⟨(some 14), .bin .lss .none (.t 13) (.c (.int .u8 128)), (some (10, false)), [13]⟩,
    ⟨(some 15), .pick (.t 10) (.c (.bool true)) (.t 14), none, [14, 10]⟩,
    ⟨(some 16), .mov (.t 15), none, [15]⟩,
    ⟨(some 17), .mov (.t 0), (some (16, false)), []⟩,
    ⟨(some 18), .mov (.t 1), (some (16, false)), []⟩,
    ⟨(some 19), .indexStr (.t 17) (.t 18), (some (16, false)), [18, 17]⟩,
    ⟨(some 20), .bin .gtr .none (.t 19) (.c (.int .u8 191)), (some (16, false)), [19]⟩,
    ⟨(some 21), .pick (.t 16) (.c (.bool true)) (.t 20), none, [20, 16]⟩])
  (.cond (.t 21)
   (.seq (.ops [⟨(some 4), .mov (.c (.int .i64 0)), none, [21]⟩,
     ⟨(some 5), .mov (.c (.bool false)), none, []⟩])
   (.ret))
   (.skip)))
  (.seq (.ops [⟨(some 22), .mov (.t 0), none, [21, 0]⟩,
    ⟨(some 23), .mov (.t 1), none, [1]⟩,
    ⟨(some 24), .indexStr (.t 22) (.t 23), none, [23, 22]⟩,
    ⟨(some 25), .conv .i64 (.t 24), none, [24]⟩,
    ⟨(some 26), .bin .sub .none (.t 25) (.c (.int .i64 128)), none, [25]⟩,
    ⟨(some 4), .mov (.t 26), none, [26]⟩,
    ⟨(some 5), .mov (.c (.bool true)), none, []⟩])
  (.ret))), 27, [.tmp 4, .tmp 5]⟩
theorem f61_ok : compF Try.prog Try.f61 [⟨0, [], [], [[4], [5]]⟩, ⟨0, [], [], [[], [], [7], [8, 6], [9], [], [], [12, 11], [13], [14, 10], [15], [], [], [18, 17], [19], [20, 16]]⟩, ⟨0, [], [], [[21], []]⟩, ⟨0, [], [], [[21, 0], [1], [23, 22], [24], [25], [26], []]⟩] = some f61 := by kernel_rfl

def F : FuncId → Option AFn
  | 3 => some f3
  | 4 => some f4
  | 5 => some f5
  | 6 => some f6
  | 7 => some f7
  | 8 => some f8
  | 9 => some f9
  | 10 => some f10
  | 11 => some f11
  | 12 => some f12
  | 13 => some f13
  | 14 => some f14
  | 15 => some f15
  | 16 => some f16
  | 17 => some f17
  | 18 => some f18
  | 19 => some f19
  | 20 => some f20
  | 21 => some f21
  | 22 => some f22
  | 23 => some f23
  | 24 => some f24
  | 25 => some f25
  | 26 => some f26
  | 27 => some f27
  | 28 => some f28
  | 29 => some f29
  | 30 => some f30
  | 31 => some f31
  | 32 => some f32
  | 33 => some f33
  | 34 => some f34
  | 35 => some f35
  | 36 => some f36
  | 37 => some f37
  | 38 => some f38
  | 39 => some f39
  | 40 => some f40
  | 41 => some f41
  | 42 => some f42
  | 43 => some f43
  | 44 => some f44
  | 45 => some f45
  | 46 => some f46
  | 47 => some f47
  | 48 => some f48
  | 49 => some f49
  | 50 => some f50
  | 51 => some f51
  | 52 => some f52
  | 53 => some f53
  | 54 => some f54
  | 55 => some f55
  | 56 => some f56
  | 57 => some f57
  | 58 => some f58
  | 59 => some f59
  | 60 => some f60
  | 61 => some f61
  | _ => none

theorem F_ok : FOk Try.prog F := by
  intro f fa h
  unfold F at h
  split at h
  · cases h; exact ⟨_, _, Try.func3, f3_ok⟩
  · cases h; exact ⟨_, _, Try.func4, f4_ok⟩
  · cases h; exact ⟨_, _, Try.func5, f5_ok⟩
  · cases h; exact ⟨_, _, Try.func6, f6_ok⟩
  · cases h; exact ⟨_, _, Try.func7, f7_ok⟩
  · cases h; exact ⟨_, _, Try.func8, f8_ok⟩
  · cases h; exact ⟨_, _, Try.func9, f9_ok⟩
  · cases h; exact ⟨_, _, Try.func10, f10_ok⟩
  · cases h; exact ⟨_, _, Try.func11, f11_ok⟩
  · cases h; exact ⟨_, _, Try.func12, f12_ok⟩
  · cases h; exact ⟨_, _, Try.func13, f13_ok⟩
  · cases h; exact ⟨_, _, Try.func14, f14_ok⟩
  · cases h; exact ⟨_, _, Try.func15, f15_ok⟩
  · cases h; exact ⟨_, _, Try.func16, f16_ok⟩
  · cases h; exact ⟨_, _, Try.func17, f17_ok⟩
  · cases h; exact ⟨_, _, Try.func18, f18_ok⟩
  · cases h; exact ⟨_, _, Try.func19, f19_ok⟩
  · cases h; exact ⟨_, _, Try.func20, f20_ok⟩
  · cases h; exact ⟨_, _, Try.func21, f21_ok⟩
  · cases h; exact ⟨_, _, Try.func22, f22_ok⟩
  · cases h; exact ⟨_, _, Try.func23, f23_ok⟩
  · cases h; exact ⟨_, _, Try.func24, f24_ok⟩
  · cases h; exact ⟨_, _, Try.func25, f25_ok⟩
  · cases h; exact ⟨_, _, Try.func26, f26_ok⟩
  · cases h; exact ⟨_, _, Try.func27, f27_ok⟩
  · cases h; exact ⟨_, _, Try.func28, f28_ok⟩
  · cases h; exact ⟨_, _, Try.func29, f29_ok⟩
  · cases h; exact ⟨_, _, Try.func30, f30_ok⟩
  · cases h; exact ⟨_, _, Try.func31, f31_ok⟩
  · cases h; exact ⟨_, _, Try.func32, f32_ok⟩
  · cases h; exact ⟨_, _, Try.func33, f33_ok⟩
  · cases h; exact ⟨_, _, Try.func34, f34_ok⟩
  · cases h; exact ⟨_, _, Try.func35, f35_ok⟩
  · cases h; exact ⟨_, _, Try.func36, f36_ok⟩
  · cases h; exact ⟨_, _, Try.func37, f37_ok⟩
  · cases h; exact ⟨_, _, Try.func38, f38_ok⟩
  · cases h; exact ⟨_, _, Try.func39, f39_ok⟩
  · cases h; exact ⟨_, _, Try.func40, f40_ok⟩
  · cases h; exact ⟨_, _, Try.func41, f41_ok⟩
  · cases h; exact ⟨_, _, Try.func42, f42_ok⟩
  · cases h; exact ⟨_, _, Try.func43, f43_ok⟩
  · cases h; exact ⟨_, _, Try.func44, f44_ok⟩
  · cases h; exact ⟨_, _, Try.func45, f45_ok⟩
  · cases h; exact ⟨_, _, Try.func46, f46_ok⟩
  · cases h; exact ⟨_, _, Try.func47, f47_ok⟩
  · cases h; exact ⟨_, _, Try.func48, f48_ok⟩
  · cases h; exact ⟨_, _, Try.func49, f49_ok⟩
  · cases h; exact ⟨_, _, Try.func50, f50_ok⟩
  · cases h; exact ⟨_, _, Try.func51, f51_ok⟩
  · cases h; exact ⟨_, _, Try.func52, f52_ok⟩
  · cases h; exact ⟨_, _, Try.func53, f53_ok⟩
  · cases h; exact ⟨_, _, Try.func54, f54_ok⟩
  · cases h; exact ⟨_, _, Try.func55, f55_ok⟩
  · cases h; exact ⟨_, _, Try.func56, f56_ok⟩
  · cases h; exact ⟨_, _, Try.func57, f57_ok⟩
  · cases h; exact ⟨_, _, Try.func58, f58_ok⟩
  · cases h; exact ⟨_, _, Try.func59, f59_ok⟩
  · cases h; exact ⟨_, _, Try.func60, f60_ok⟩
  · cases h; exact ⟨_, _, Try.func61, f61_ok⟩
  · cases h

end Go.Proofs.Ytidlbhppbopjjaa.Ax

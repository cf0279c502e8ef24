/-
Functions of the program, compiled for the abstract machine (by a program of ours).
-/
import Derived.Test.YtahifkdnkhlknaaKxB
import Derived.Test.YtahifkdnkhlknaaProg
import Derived.KernelRfl
namespace Go.Proofs.Ytahifkdnkhlknaa.Ax
open Go.Ax
set_option maxRecDepth 100000

/-! 3: polyglot/polyglotlaw21.SnheadLengths -/
def f3 : AFn := ⟨.seq (.ops [⟨(some 4), .mov (.c (.bool false)), none, [4]⟩])
  (.seq (.seq (.ops [⟨(some 17), .call (.c (.func (.func 7) [] [])) [], none, []⟩,
    ⟨(some 18), .not (.t 17), none, [17]⟩])
  (.cond (.t 18)
   (.seq (.ops [⟨(some 4), .mov (.c (.bool false)), none, [18]⟩])
   (.ret))
   (.skip)))
  (.seq (.ops [⟨(some 19), .mov (.t 1), none, [18, 1]⟩,
    ⟨(some 20), .bin .rem .none (.t 19) (.c (.int .i64 66000)), none, [19]⟩,
    ⟨(some 1), .mov (.t 20), none, [20]⟩])
  (.seq (.ops [⟨(some 22), .mov (.t 0), none, []⟩,
    ⟨(some 23), .mov (.t 1), none, []⟩,
    ⟨(some 24), .call (.c (.func (.func 8) [] [])) [(.t 22), (.t 23)], none, [22, 23]⟩,
    ⟨(some 21), .mov (.t 24), none, [24]⟩,
    ⟨(some 25), .extract (.t 21) 0, none, []⟩,
    ⟨(some 26), .extract (.t 21) 1, none, [21]⟩,
    ⟨(some 5), .mov (.t 25), none, [25]⟩,
    ⟨(some 6), .mov (.t 26), none, [26]⟩])
  (.seq (.seq (.ops [⟨(some 27), .mov (.t 0), none, []⟩,
    ⟨(some 28), .call (.c (.func (.func 9) [] [])) [(.t 27)], none, [27]⟩,
    ⟨(some 29), .not (.t 28), none, [28]⟩])
  (.cond (.t 29)
   (.seq (.ops [⟨(some 30), .mov (.t 6), none, [29, 6]⟩,
     ⟨(some 31), .bin .eql .none (.t 30) (.c (.int .i64 8)), none, [30]⟩,
     ⟨(some 32), .mov (.t 31), none, [31]⟩,
     ⟨(some 33), .mov (.t 5), (some (32, true)), [5]⟩,
     ⟨(some 34), .bin .eql .none (.t 33) (.c (.str [])), (some (32, true)), [33]⟩,
     ⟨(some 35), .pick (.t 32) (.t 34) (.c (.bool false)), none, [34, 32]⟩,
     ⟨(some 4), .mov (.t 35), none, [35]⟩])
   (.ret))
   (.skip)))
  (.seq (.seq (.ops [⟨(some 36), .mov (.t 1), none, [29]⟩,
    ⟨(some 37), .bin .lss .none (.t 36) (.c (.int .i64 0)), none, [36]⟩])
  (.cond (.t 37)
   (.seq (.ops [⟨(some 38), .mov (.t 6), none, [37, 6]⟩,
     ⟨(some 39), .bin .eql .none (.t 38) (.c (.int .i64 2)), none, [38]⟩,
     ⟨(some 40), .mov (.t 39), none, [39]⟩,
     ⟨(some 41), .mov (.t 5), (some (40, true)), [5]⟩,
     ⟨(some 42), .bin .eql .none (.t 41) (.c (.str [])), (some (40, true)), [41]⟩,
     ⟨(some 43), .pick (.t 40) (.t 42) (.c (.bool false)), none, [42, 40]⟩,
     ⟨(some 4), .mov (.t 43), none, [43]⟩])
   (.ret))
   (.skip)))
  (.seq (.seq (.ops [⟨(some 44), .mov (.t 1), none, [37]⟩,
    ⟨(some 45), .bin .gtr .none (.t 44) (.c (.int .i64 65531)), none, [44]⟩])
  (.cond (.t 45)
   (.seq (.ops [⟨(some 46), .mov (.t 6), none, [45, 6]⟩,
     ⟨(some 47), .bin .eql .none (.t 46) (.c (.int .i64 4)), none, [46]⟩,
     ⟨(some 48), .mov (.t 47), none, [47]⟩,
     ⟨(some 49), .mov (.t 5), (some (48, true)), [5]⟩,
     ⟨(some 50), .bin .eql .none (.t 49) (.c (.str [])), (some (48, true)), [49]⟩,
     ⟨(some 51), .pick (.t 48) (.t 50) (.c (.bool false)), none, [50, 48]⟩,
     ⟨(some 4), .mov (.t 51), none, [51]⟩])
   (.ret))
   (.skip)))
  (.seq (.ops [⟨(some 53), .mov (.t 5), none, [45]⟩,
    ⟨(some 54), .call (.c (.func (.func 10) [] [])) [(.t 53)], none, [53]⟩,
    ⟨(some 52), .mov (.t 54), none, [54]⟩,
    ⟨(some 55), .extract (.t 52) 0, none, []⟩,
    ⟨(some 56), .extract (.t 52) 1, none, []⟩,
    ⟨(some 57), .extract (.t 52) 2, none, []⟩,
    ⟨(some 58), .extract (.t 52) 3, none, [52]⟩,
    ⟨(some 7), .mov (.t 55), none, [55, 7]⟩,
    ⟨(some 8), .mov (.t 56), none, [56]⟩,
    ⟨(some 9), .mov (.t 57), none, [57]⟩,
    ⟨(some 10), .mov (.t 58), none, [58]⟩])
  (.seq (.seq (.ops [⟨(some 59), .mov (.t 6), none, [6]⟩,
    ⟨(some 60), .bin .neq .none (.t 59) (.c (.int .i64 0)), none, [59]⟩,
    ⟨(some 61), .mov (.t 60), none, [60]⟩,
    ⟨(some 62), .mov (.t 10), (some (61, false)), [10]⟩,
    ⟨(some 63), .bin .neq .none (.t 62) (.c (.int .i64 0)), (some (61, false)), [62]⟩,
    ⟨(some 64), .pick (.t 61) (.c (.bool true)) (.t 63), none, [63, 61]⟩,
    ⟨(some 65), .mov (.t 64), none, [64]⟩,
    ⟨(some 66), .mov (.t 8), (some (65, false)), []⟩,
    ⟨(some 67), .mov (.t 5), (some (65, false)), []⟩,
    ⟨(some 68), .lenS (.t 67), (some (65, false)), [67]⟩,
    ⟨(some 69), .bin .neq .none (.t 66) (.t 68), (some (65, false)), [68, 66]⟩,
    ⟨(some 70), .pick (.t 65) (.c (.bool true)) (.t 69), none, [69, 65]⟩,
    ⟨(some 71), .mov (.t 70), none, [70]⟩,
    ⟨(some 72), .mov (.t 9), (some (71, false)), []⟩,
    ⟨(some 73), .mov (.t 1), (some (71, false)), []⟩,
    ⟨(some 74), .mov (.t 8), (some (71, false)), []⟩,
    ⟨(some 75), .bin .add .none (.t 73) (.t 74), (some (71, false)), [74, 73]⟩,
    ⟨(some 76), .bin .neq .none (.t 72) (.t 75), (some (71, false)), [75, 72]⟩,
    ⟨(some 77), .pick (.t 71) (.c (.bool true)) (.t 76), none, [76, 71]⟩,
    ⟨(some 78), .mov (.t 77), none, [77]⟩,
    ⟨(some 79), .mov (.t 8), (some (78, false)), []⟩,
    ⟨(some 80), .bin .eql .none (.t 79) (.c (.int .i64 2)), (some (78, false)), [79]⟩,
    ⟨(some 81), .mov (.t 1), (some (78, false)), []⟩,
    ⟨(some 82), .bin .leq .none (.t 81) (.c (.int .i64 253)), (some (78, false)), [81]⟩,
    ⟨(some 83), .bin .neq .bool (.t 80) (.t 82), (some (78, false)), [82, 80]⟩,
    ⟨(some 84), .pick (.t 78) (.c (.bool true)) (.t 83), none, [83, 78]⟩,
    ⟨(some 85), .mov (.t 84), none, [84]⟩,
    ⟨(some 86), .mov (.t 8), (some (85, false)), [8]⟩,
    ⟨(some 87), .bin .eql .none (.t 86) (.c (.int .i64 4)), (some (85, false)), [86]⟩,
    ⟨(some 88), .mov (.t 1), (some (85, false)), []⟩,
    ⟨(some 89), .bin .gtr .none (.t 88) (.c (.int .i64 253)), (some (85, false)), [88]⟩,
    ⟨(some 90), .bin .neq .bool (.t 87) (.t 89), (some (85, false)), [89, 87]⟩,
    ⟨(some 91), .pick (.t 85) (.c (.bool true)) (.t 90), none, [90, 85]⟩])
  (.cond (.t 91)
   (.seq (.ops [⟨(some 4), .mov (.c (.bool false)), none, [91]⟩])
   (.ret))
   (.skip)))
  (.seq (.ops [⟨(some 93), .mov (.t 0), none, [91, 0]⟩,
    ⟨(some 94), .mov (.t 1), none, []⟩,
    ⟨(some 95), .bin .add .none (.t 94) (.c (.int .i64 1)), none, [94]⟩,
    ⟨(some 96), .call (.c (.func (.func 8) [] [])) [(.t 93), (.t 95)], none, [93, 95]⟩,
    ⟨(some 92), .mov (.t 96), none, [96]⟩,
    ⟨(some 97), .extract (.t 92) 0, none, []⟩,
    ⟨(some 98), .extract (.t 92) 1, none, [92]⟩,
    ⟨(some 11), .mov (.t 97), none, [97]⟩,
    ⟨(some 12), .mov (.t 98), none, [98]⟩])
  (.seq (.seq (.ops [⟨(some 99), .mov (.t 1), none, [1]⟩,
    ⟨(some 100), .bin .eql .none (.t 99) (.c (.int .i64 65531)), none, [99]⟩])
  (.cond (.t 100)
   (.seq (.ops [⟨(some 101), .mov (.t 12), none, [100, 12]⟩,
     ⟨(some 102), .bin .eql .none (.t 101) (.c (.int .i64 4)), none, [101]⟩,
     ⟨(some 4), .mov (.t 102), none, [102]⟩])
   (.ret))
   (.skip)))
  (.seq (.ops [⟨(some 104), .mov (.t 11), none, [100]⟩,
    ⟨(some 105), .call (.c (.func (.func 10) [] [])) [(.t 104)], none, [104]⟩,
    ⟨(some 103), .mov (.t 105), none, [105]⟩,
    ⟨(some 106), .extract (.t 103) 0, none, []⟩,
    ⟨(some 107), .extract (.t 103) 1, none, []⟩,
    ⟨(some 108), .extract (.t 103) 2, none, []⟩,
    ⟨(some 109), .extract (.t 103) 3, none, [103]⟩,
    ⟨(some 13), .mov (.t 106), none, [106, 13]⟩,
    ⟨(some 14), .mov (.t 107), none, [107, 14]⟩,
    ⟨(some 15), .mov (.t 108), none, [108]⟩,
    ⟨(some 16), .mov (.t 109), none, [109]⟩])
  (.seq (.ops [⟨(some 110), .mov (.t 12), none, [12]⟩,
    ⟨(some 111), .bin .eql .none (.t 110) (.c (.int .i64 0)), none, [110]⟩,
    ⟨(some 112), .mov (.t 111), none, [111]⟩,
    ⟨(some 113), .mov (.t 16), (some (112, true)), [16]⟩,
    ⟨(some 114), .bin .eql .none (.t 113) (.c (.int .i64 0)), (some (112, true)), [113]⟩,
    ⟨(some 115), .pick (.t 112) (.t 114) (.c (.bool false)), none, [114, 112]⟩,
    ⟨(some 116), .mov (.t 115), none, [115]⟩,
    ⟨(some 117), .mov (.t 15), (some (116, true)), [15]⟩,
    ⟨(some 118), .mov (.t 9), (some (116, true)), [9]⟩,
    ⟨(some 119), .bin .sub .none (.t 117) (.t 118), (some (116, true)), [118, 117]⟩,
    ⟨(some 120), .mov (.t 11), (some (116, true)), [11]⟩,
    ⟨(some 121), .lenS (.t 120), (some (116, true)), [120]⟩,
    ⟨(some 122), .bin .add .none (.c (.int .i64 1)) (.t 121), (some (116, true)), [121]⟩,
    ⟨(some 123), .mov (.t 5), (some (116, true)), [5]⟩,
    ⟨(some 124), .lenS (.t 123), (some (116, true)), [123]⟩,
    ⟨(some 125), .bin .sub .none (.t 122) (.t 124), (some (116, true)), [124, 122]⟩,
    ⟨(some 126), .bin .eql .none (.t 119) (.t 125), (some (116, true)), [125, 119]⟩,
    ⟨(some 127), .pick (.t 116) (.t 126) (.c (.bool false)), none, [126, 116]⟩,
    ⟨(some 4), .mov (.t 127), none, [127]⟩])
  (.ret))))))))))))), 128, [.tmp 4]⟩
theorem f3_ok : compF Try.prog Try.f3 [⟨0, [], [], [[4]]⟩, ⟨0, [], [], [[], [17]]⟩, ⟨0, [], [], [[18]]⟩, ⟨0, [], [], [[18, 1], [19], [20]]⟩, ⟨0, [], [], [[], [], [22, 23], [24], [], [21], [25], [26]]⟩, ⟨0, [], [], [[], [27], [28]]⟩, ⟨0, [], [], [[29, 6], [30], [31], [5], [33], [34, 32], [35]]⟩, ⟨0, [], [], [[29], [36]]⟩, ⟨0, [], [], [[37, 6], [38], [39], [5], [41], [42, 40], [43]]⟩, ⟨0, [], [], [[37], [44]]⟩, ⟨0, [], [], [[45, 6], [46], [47], [5], [49], [50, 48], [51]]⟩, ⟨0, [], [], [[45], [53], [54], [], [], [], [52], [55, 7], [56], [57], [58]]⟩, ⟨0, [], [], [[6], [59], [60], [10], [62], [63, 61], [64], [], [], [67], [68, 66], [69, 65], [70], [], [], [], [74, 73], [75, 72], [76, 71], [77], [], [79], [], [81], [82, 80], [83, 78], [84], [8], [86], [], [88], [89, 87], [90, 85]]⟩, ⟨0, [], [], [[91]]⟩, ⟨0, [], [], [[91, 0], [], [94], [93, 95], [96], [], [92], [97], [98]]⟩, ⟨0, [], [], [[1], [99]]⟩, ⟨0, [], [], [[100, 12], [101], [102]]⟩, ⟨0, [], [], [[100], [104], [105], [], [], [], [103], [106, 13], [107, 14], [108], [109]]⟩, ⟨0, [], [], [[12], [110], [111], [16], [113], [114, 112], [115], [15], [9], [118, 117], [11], [120], [121], [5], [123], [124, 122], [125, 119], [126, 116], [127]]⟩] = some f3 := by kernel_rfl

/-! 4: polyglot/polyglotlaw21.SnheadFlags -/
def f4 : AFn := ⟨.seq (.ops [⟨(some 3), .box (.t 0), none, [0]⟩,
    ⟨(some 6), .mov (.c (.bool false)), none, [6]⟩])
  (.seq (.seq (.ops [⟨(some 16), .call (.c (.func (.func 7) [] [])) [], none, []⟩,
    ⟨(some 17), .not (.t 16), none, [16]⟩])
  (.cond (.t 17)
   (.seq (.ops [⟨(some 6), .mov (.c (.bool false)), none, [17]⟩])
   (.ret))
   (.skip)))
  (.seq (.ops [⟨(some 19), .loadN 6 (.t 3), none, [17]⟩,
    ⟨(some 20), .call (.c (.func (.func 11) [] [])) [(.t 19)], none, [19]⟩,
    ⟨(some 18), .mov (.t 20), none, [20]⟩,
    ⟨(some 21), .extract (.t 18) 0, none, []⟩,
    ⟨(some 22), .extract (.t 18) 1, none, [18]⟩,
    ⟨(some 7), .mov (.t 21), none, [21]⟩,
    ⟨(some 8), .mov (.t 22), none, [22]⟩])
  (.seq (.seq (.ops [⟨(some 23), .mov (.t 8), none, []⟩,
    ⟨(some 24), .bin .eql .none (.t 23) (.c (.int .i64 0)), none, [23]⟩])
  (.cond (.t 24)
   (.seq (.ops [⟨(some 26), .mov (.t 7), none, [24]⟩,
     ⟨(some 27), .call (.c (.func (.func 12) [] [])) [(.t 26)], none, [26]⟩,
     ⟨(some 25), .mov (.t 27), none, [27]⟩,
     ⟨(some 28), .extract (.t 25) 0, none, []⟩,
     ⟨(some 29), .extract (.t 25) 1, none, [25]⟩,
     ⟨(some 9), .new [.bool false, .int .i64 0, .bool false, .bool false, .bool false, .int .i64 0], none, []⟩,
     ⟨none, .store 6 (.t 9) (.t 28), none, [28]⟩,
     ⟨(some 10), .mov (.t 29), none, [29]⟩])
   (.seq (.ops [⟨(some 30), .mov (.t 7), none, []⟩,
     ⟨(some 31), .bin .lss .none (.t 30) (.c (.int .i64 0)), none, [30]⟩,
     ⟨(some 32), .mov (.t 31), none, [31]⟩,
     ⟨(some 33), .mov (.t 7), (some (32, false)), [7]⟩,
     ⟨(some 34), .bin .gtr .none (.t 33) (.c (.int .i64 255)), (some (32, false)), [33]⟩,
     ⟨(some 35), .pick (.t 32) (.c (.bool true)) (.t 34), none, [34, 32]⟩,
     ⟨(some 36), .mov (.t 35), none, [35]⟩,
     ⟨(some 37), .mov (.t 10), (some (36, false)), [10]⟩,
     ⟨(some 38), .bin .neq .none (.t 37) (.c (.int .i64 0)), (some (36, false)), [37]⟩,
     ⟨(some 39), .pick (.t 36) (.c (.bool true)) (.t 38), none, [38, 36]⟩,
     ⟨(some 40), .mov (.t 39), none, [39]⟩,
     ⟨(some 41), .loadN 6 (.t 9), (some (40, false)), [9]⟩,
     ⟨(some 42), .loadN 6 (.t 3), (some (40, false)), []⟩,
     ⟨(some 43), .bin .neq (.agg [.bool, .int .i64, .bool, .bool, .bool, .int .i64]) (.t 41) (.t 42), (some (40, false)), [42, 41]⟩,
     ⟨(some 44), .pick (.t 40) (.c (.bool true)) (.t 43), none, [43, 40]⟩])
   (.cond (.t 44)
    (.seq (.ops [⟨(some 6), .mov (.c (.bool false)), none, [44]⟩])
    (.ret))
    (.skip))))
   (.skip)))
  (.seq (.ops [⟨(some 46), .mov (.t 1), none, [24, 44]⟩,
    ⟨(some 47), .call (.c (.func (.func 12) [] [])) [(.t 46)], none, [46]⟩,
    ⟨(some 45), .mov (.t 47), none, [47]⟩,
    ⟨(some 48), .extract (.t 45) 0, none, []⟩,
    ⟨(some 49), .extract (.t 45) 1, none, [45]⟩,
    ⟨(some 11), .new [.bool false, .int .i64 0, .bool false, .bool false, .bool false, .int .i64 0], none, []⟩,
    ⟨none, .store 6 (.t 11) (.t 48), none, [48]⟩,
    ⟨(some 12), .mov (.t 49), none, [49]⟩])
  (.seq (.seq (.ops [⟨(some 50), .mov (.t 12), none, []⟩,
    ⟨(some 51), .bin .eql .none (.t 50) (.c (.int .i64 0)), none, [50]⟩,
    ⟨(some 52), .mov (.t 1), none, []⟩,
    ⟨(some 53), .bin .geq .none (.t 52) (.c (.int .i64 0)), none, [52]⟩,
    ⟨(some 54), .mov (.t 53), none, [53]⟩,
    ⟨(some 55), .mov (.t 1), (some (54, true)), []⟩,
    ⟨(some 56), .bin .lss .none (.t 55) (.c (.int .i64 256)), (some (54, true)), [55]⟩,
    ⟨(some 57), .pick (.t 54) (.t 56) (.c (.bool false)), none, [56, 54]⟩,
    ⟨(some 58), .mov (.t 57), none, [57]⟩,
    ⟨(some 59), .mov (.t 1), (some (58, true)), []⟩,
    ⟨(some 60), .bin .rem .none (.t 59) (.c (.int .i64 4)), (some (58, true)), [59]⟩,
    ⟨(some 61), .bin .neq .none (.t 60) (.c (.int .i64 3)), (some (58, true)), [60]⟩,
    ⟨(some 62), .pick (.t 58) (.t 61) (.c (.bool false)), none, [61, 58]⟩,
    ⟨(some 63), .bin .neq .bool (.t 51) (.t 62), none, [62, 51]⟩])
  (.cond (.t 63)
   (.seq (.ops [⟨(some 6), .mov (.c (.bool false)), none, [63]⟩])
   (.ret))
   (.skip)))
  (.seq (.seq (.ops [⟨(some 64), .mov (.t 12), none, [63, 12]⟩,
    ⟨(some 65), .bin .eql .none (.t 64) (.c (.int .i64 0)), none, [64]⟩])
  (.cond (.t 65)
   (.seq (.ops [⟨(some 67), .loadN 6 (.t 11), none, [65, 11]⟩,
     ⟨(some 68), .call (.c (.func (.func 11) [] [])) [(.t 67)], none, [67]⟩,
     ⟨(some 66), .mov (.t 68), none, [68]⟩,
     ⟨(some 69), .extract (.t 66) 0, none, []⟩,
     ⟨(some 70), .extract (.t 66) 1, none, [66]⟩,
     ⟨(some 13), .mov (.t 69), none, [69]⟩,
     ⟨(some 14), .mov (.t 70), none, [70]⟩])
   (.seq (.ops [⟨(some 71), .mov (.t 14), none, [14]⟩,
     ⟨(some 72), .bin .neq .none (.t 71) (.c (.int .i64 0)), none, [71]⟩,
     ⟨(some 73), .mov (.t 72), none, [72]⟩,
     ⟨(some 74), .mov (.t 13), (some (73, false)), [13]⟩,
     ⟨(some 75), .mov (.t 1), (some (73, false)), [1]⟩,
     ⟨(some 76), .bin .neq .none (.t 74) (.t 75), (some (73, false)), [75, 74]⟩,
     ⟨(some 77), .pick (.t 73) (.c (.bool true)) (.t 76), none, [76, 73]⟩])
   (.cond (.t 77)
    (.seq (.ops [⟨(some 6), .mov (.c (.bool false)), none, [77]⟩])
    (.ret))
    (.skip))))
   (.skip)))
  (.seq (.ops [⟨(some 78), .mov (.t 2), none, [65, 77]⟩,
    ⟨(some 79), .call (.c (.func (.func 13) [] [])) [(.t 78)], none, [78]⟩,
    ⟨(some 15), .new [.bool false, .int .i64 0, .bool false, .bool false, .bool false, .int .i64 0], none, []⟩,
    ⟨none, .store 6 (.t 15) (.t 79), none, [79]⟩])
  (.seq (.ops [⟨(some 80), .mov (.t 2), none, [2]⟩,
    ⟨(some 81), .loadN 6 (.t 3), none, []⟩,
    ⟨(some 82), .call (.c (.func (.func 14) [] [])) [(.t 80), (.t 81)], none, [80, 81]⟩,
    ⟨(some 83), .not (.t 82), none, [82]⟩,
    ⟨(some 84), .mov (.t 83), none, [83]⟩,
    ⟨(some 85), .mov (.t 8), (some (84, false)), [8]⟩,
    ⟨(some 86), .bin .eql .none (.t 85) (.c (.int .i64 0)), (some (84, false)), [85]⟩,
    ⟨(some 87), .mov (.t 86), (some (84, false)), [86]⟩,
    ⟨(some 88), .fieldAddr 0 (.t 3), (some (87, true)), []⟩,
    ⟨(some 89), .load1 (.t 88), (some (87, true)), [88]⟩,
    ⟨(some 90), .not (.t 89), (some (87, true)), [89]⟩,
    ⟨(some 91), .mov (.t 90), (some (87, true)), [90]⟩,
    ⟨(some 92), .fieldAddr 0 (.t 15), (some (91, false)), []⟩,
    ⟨(some 93), .load1 (.t 92), (some (91, false)), [92]⟩,
    ⟨(some 94), .pick (.t 91) (.c (.bool true)) (.t 93), (some (87, true)), [93, 91]⟩,
    ⟨(some 95), .pick (.t 87) (.t 94) (.c (.bool false)), (some (84, false)), [94, 87]⟩,
    ⟨(some 96), .mov (.t 95), (some (84, false)), [95]⟩,
    ⟨(some 97), .fieldAddr 1 (.t 3), (some (96, true)), []⟩,
    ⟨(some 98), .load1 (.t 97), (some (96, true)), [97]⟩,
    ⟨(some 99), .bin .eql .none (.t 98) (.c (.int .i64 0)), (some (96, true)), [98]⟩,
    ⟨(some 100), .mov (.t 99), (some (96, true)), [99]⟩,
    ⟨(some 101), .fieldAddr 1 (.t 15), (some (100, false)), []⟩,
    ⟨(some 102), .load1 (.t 101), (some (100, false)), [101]⟩,
    ⟨(some 103), .bin .eql .none (.t 102) (.c (.int .i64 1)), (some (100, false)), [102]⟩,
    ⟨(some 104), .pick (.t 100) (.c (.bool true)) (.t 103), (some (96, true)), [103, 100]⟩,
    ⟨(some 105), .pick (.t 96) (.t 104) (.c (.bool false)), (some (84, false)), [104, 96]⟩,
    ⟨(some 106), .mov (.t 105), (some (84, false)), [105]⟩,
    ⟨(some 107), .fieldAddr 2 (.t 3), (some (106, true)), []⟩,
    ⟨(some 108), .load1 (.t 107), (some (106, true)), [107]⟩,
    ⟨(some 109), .not (.t 108), (some (106, true)), [108]⟩,
    ⟨(some 110), .mov (.t 109), (some (106, true)), [109]⟩,
    ⟨(some 111), .fieldAddr 2 (.t 15), (some (110, false)), []⟩,
    ⟨(some 112), .load1 (.t 111), (some (110, false)), [111]⟩,
    ⟨(some 113), .pick (.t 110) (.c (.bool true)) (.t 112), (some (106, true)), [112, 110]⟩,
    ⟨(some 114), .pick (.t 106) (.t 113) (.c (.bool false)), (some (84, false)), [113, 106]⟩,
    ⟨(some 115), .mov (.t 114), (some (84, false)), [114]⟩,
    ⟨(some 116), .fieldAddr 3 (.t 3), (some (115, true)), []⟩,
    ⟨(some 117), .load1 (.t 116), (some (115, true)), [116]⟩,
    ⟨(some 118), .not (.t 117), (some (115, true)), [117]⟩,
    ⟨(some 119), .mov (.t 118), (some (115, true)), [118]⟩,
    ⟨(some 120), .fieldAddr 3 (.t 15), (some (119, false)), []⟩,
    ⟨(some 121), .load1 (.t 120), (some (119, false)), [120]⟩,
    ⟨(some 122), .pick (.t 119) (.c (.bool true)) (.t 121), (some (115, true)), [121, 119]⟩,
    ⟨(some 123), .pick (.t 115) (.t 122) (.c (.bool false)), (some (84, false)), [122, 115]⟩,
    ⟨(some 124), .mov (.t 123), (some (84, false)), [123]⟩,
    ⟨(some 125), .fieldAddr 4 (.t 3), (some (124, true)), []⟩,
    ⟨(some 126), .load1 (.t 125), (some (124, true)), [125]⟩,
    ⟨(some 127), .not (.t 126), (some (124, true)), [126]⟩,
    ⟨(some 128), .mov (.t 127), (some (124, true)), [127]⟩,
    ⟨(some 129), .fieldAddr 4 (.t 15), (some (128, false)), []⟩,
    ⟨(some 130), .load1 (.t 129), (some (128, false)), [129]⟩,
    ⟨(some 131), .pick (.t 128) (.c (.bool true)) (.t 130), (some (124, true)), [130, 128]⟩,
    ⟨(some 132), .pick (.t 124) (.t 131) (.c (.bool false)), (some (84, false)), [131, 124]⟩,
    ⟨(some 133), .mov (.t 132), (some (84, false)), [132]⟩,
    ⟨(some 134), .fieldAddr 5 (.t 3), (some (133, true)), [3]⟩,
    ⟨(some 135), .load1 (.t 134), (some (133, true)), [134]⟩,
    ⟨(some 136), .bin .eql .none (.t 135) (.c (.int .i64 0)), (some (133, true)), [135]⟩,
    ⟨(some 137), .mov (.t 136), (some (133, true)), [136]⟩,
    ⟨(some 138), .fieldAddr 5 (.t 15), (some (137, false)), [15]⟩,
    ⟨(some 139), .load1 (.t 138), (some (137, false)), [138]⟩,
    ⟨(some 140), .bin .eql .none (.t 139) (.c (.int .i64 1)), (some (137, false)), [139]⟩,
    ⟨(some 141), .pick (.t 137) (.c (.bool true)) (.t 140), (some (133, true)), [140, 137]⟩,
    ⟨(some 142), .pick (.t 133) (.t 141) (.c (.bool false)), (some (84, false)), [141, 133]⟩,
    ⟨(some 143), .pick (.t 84) (.c (.bool true)) (.t 142), none, [142, 84]⟩,
    ⟨(some 6), .mov (.t 143), none, [143]⟩])
  (.ret))))))))), 144, [.tmp 6]⟩
theorem f4_ok : compF Try.prog Try.f4 [⟨0, [], [], [[0], [6]]⟩, ⟨0, [], [], [[], [16]]⟩, ⟨0, [], [], [[17]]⟩, ⟨0, [], [], [[17], [19], [20], [], [18], [21], [22]]⟩, ⟨0, [], [], [[], [23]]⟩, ⟨0, [], [], [[24], [26], [27], [], [25], [], [28], [29]]⟩, ⟨0, [], [], [[], [30], [31], [7], [33], [34, 32], [35], [10], [37], [38, 36], [39], [9], [], [42, 41], [43, 40]]⟩, ⟨0, [], [], [[44]]⟩, ⟨0, [], [], [[24, 44], [46], [47], [], [45], [], [48], [49]]⟩, ⟨0, [], [], [[], [50], [], [52], [53], [], [55], [56, 54], [57], [], [59], [60], [61, 58], [62, 51]]⟩, ⟨0, [], [], [[63]]⟩, ⟨0, [], [], [[63, 12], [64]]⟩, ⟨0, [], [], [[65, 11], [67], [68], [], [66], [69], [70]]⟩, ⟨0, [], [], [[14], [71], [72], [13], [1], [75, 74], [76, 73]]⟩, ⟨0, [], [], [[77]]⟩, ⟨0, [], [], [[65, 77], [78], [], [79]]⟩, ⟨0, [], [], [[2], [], [80, 81], [82], [83], [8], [85], [86], [], [88], [89], [90], [], [92], [93, 91], [94, 87], [95], [], [97], [98], [99], [], [101], [102], [103, 100], [104, 96], [105], [], [107], [108], [109], [], [111], [112, 110], [113, 106], [114], [], [116], [117], [118], [], [120], [121, 119], [122, 115], [123], [], [125], [126], [127], [], [129], [130, 128], [131, 124], [132], [3], [134], [135], [136], [15], [138], [139], [140, 137], [141, 133], [142, 84], [143]]⟩] = some f4 := by kernel_rfl

/-! 5: polyglot/polyglotlaw21.SnheadNames -/
def f5_M0 : List Bool := [false, true, true, true, false, false, false, false, false, false, false, false, false, false, false, false, false, false, false, false, false, false, false, false, false, false, false, false, false, false, false, false, false, false, false, false, false, false, false, false, false, false, false, false, false, false, false, false, false, false, false, false, false, false, false, false, false, false, false, false, false, false, false, false, false, false, false, false, false, false, false, false, false, false, false, false, false, false, false, false, false, false, false, false, false, false, false, false, false, false, false, false, false, false, false, false, false, false, false, false, false, false, false, false, false, false, false, false, false, false, false, false, false, false, false, false, false, false, false, false, false, false, false, false, false, false, false, false, false, false, false, false, false, false, false, false, false, false, false, false, false, false, false, false, false, false, false, false, false, false, false, false, false, false, false, false, false, false, false, false, false, false, false, false, false, false, false, false, false]
def f5_O0 : List Bool := [true, false, false, false, false, false, false, false, false, false, false, false, false, false, false, false, false, false, false, false, false, false, false, false, false, false, false, false, false, false, false, false, false, false, false, false, false, false, false, false, false, false, false, false, false, false, false, false, false, false, false, false, false, false, false, false, false, false, false, false, false, false, false, false, false, false, false, false, false, false, false, false, false, false, false, false, false, false, false, false, false, false, false, false, false, false, false, false, false, false, false, false, false, false, false, false, false, false, false, false, false, false, false, false, false, false, false, false, false, false, false, false, false, false, false, false, false, false, false, false, false, false, false, false, false, false, false, false, false, false, false, false, false, false, false, false, false, false, false, false, false, false, false, false, false, false, false, false, false, false, false, false, false, false, false, false, false, false, false, false, false, false, false, false, false, false, false, false, false]
def f5_L0 : AC := .seq (.seq (.ops [⟨(some 30), .mov (.t 3), none, []⟩,
    ⟨(some 31), .mov (.t 1), none, []⟩,
    ⟨(some 32), .len (.t 31), none, [31]⟩,
    ⟨(some 33), .bin .lss .none (.t 30) (.t 32), none, [32, 30]⟩])
  (.cond (.t 33)
   (.skip)
   (.exit 0)))
  (.seq (.block 1 (.seq (.ops [⟨(some 37), .mov (.t 1), none, [33]⟩,
     ⟨(some 38), .mov (.t 3), none, []⟩,
     ⟨(some 39), .indexAddr 1 (.t 37) (.t 38), none, [38, 37]⟩,
     ⟨(some 40), .load1 (.t 39), none, [39]⟩,
     ⟨(some 41), .call (.c (.func (.func 10) [] [])) [(.t 40)], none, [40]⟩,
     ⟨(some 36), .mov (.t 41), none, [41]⟩,
     ⟨(some 42), .extract (.t 36) 0, none, []⟩,
     ⟨(some 43), .extract (.t 36) 1, none, []⟩,
     ⟨(some 44), .extract (.t 36) 2, none, []⟩,
     ⟨(some 45), .extract (.t 36) 3, none, [36]⟩,
     ⟨(some 4), .mov (.t 42), none, [42, 4]⟩,
     ⟨(some 5), .mov (.t 43), none, [43, 5]⟩,
     ⟨(some 6), .mov (.t 44), none, [44, 6]⟩,
     ⟨(some 7), .mov (.t 45), none, [45]⟩])
   (.seq (.ops [⟨(some 46), .mov (.t 7), none, [7]⟩,
     ⟨(some 47), .mov (.t 2), none, []⟩,
     ⟨(some 48), .mov (.t 3), none, []⟩,
     ⟨(some 49), .indexAddr 1 (.t 47) (.t 48), none, [48, 47]⟩,
     ⟨(some 50), .load1 (.t 49), none, [49]⟩,
     ⟨(some 51), .bin .neq .none (.t 46) (.t 50), none, [50, 46]⟩])
   (.cond (.t 51)
    (.seq (.ops [⟨(some 0), .mov (.c (.bool false)), none, [51]⟩])
    (.ret))
    (.skip)))))
  (.ops [⟨(some 34), .mov (.t 3), none, [51, 3]⟩,
    ⟨(some 35), .bin .add .none (.t 34) (.c (.int .i64 1)), none, [34]⟩,
    ⟨(some 3), .mov (.t 35), none, [35]⟩]))
/-- live: [1, 2, 3] -/
def f5_S0 (x1 x2 x3 : KV) : List KV := [.junk, x1, x2, x3, .junk, .junk, .junk, .junk, .junk, .junk, .junk, .junk, .junk, .junk, .junk, .junk, .junk, .junk, .junk, .junk, .junk, .junk, .junk, .junk, .junk, .junk, .junk, .junk, .junk, .junk, .junk, .junk, .junk, .junk, .junk, .junk, .junk, .junk, .junk, .junk, .junk, .junk, .junk, .junk, .junk, .junk, .junk, .junk, .junk, .junk, .junk, .junk, .junk, .junk, .junk, .junk, .junk, .junk, .junk, .junk, .junk, .junk, .junk, .junk, .junk, .junk, .junk, .junk, .junk, .junk, .junk, .junk, .junk, .junk, .junk, .junk, .junk, .junk, .junk, .junk, .junk, .junk, .junk, .junk, .junk, .junk, .junk, .junk, .junk, .junk, .junk, .junk, .junk, .junk, .junk, .junk, .junk, .junk, .junk, .junk, .junk, .junk, .junk, .junk, .junk, .junk, .junk, .junk, .junk, .junk, .junk, .junk, .junk, .junk, .junk, .junk, .junk, .junk, .junk, .junk, .junk, .junk, .junk, .junk, .junk, .junk, .junk, .junk, .junk, .junk, .junk, .junk, .junk, .junk, .junk, .junk, .junk, .junk, .junk, .junk, .junk, .junk, .junk, .junk, .junk, .junk, .junk, .junk, .junk, .junk, .junk, .junk, .junk, .junk, .junk, .junk, .junk, .junk, .junk, .junk, .junk, .junk, .junk, .junk, .junk, .junk, .junk, .junk, .junk]
/-- live: [0] -/
def f5_E0 (x0 : KV) : List KV := [x0, .junk, .junk, .junk, .junk, .junk, .junk, .junk, .junk, .junk, .junk, .junk, .junk, .junk, .junk, .junk, .junk, .junk, .junk, .junk, .junk, .junk, .junk, .junk, .junk, .junk, .junk, .junk, .junk, .junk, .junk, .junk, .junk, .junk, .junk, .junk, .junk, .junk, .junk, .junk, .junk, .junk, .junk, .junk, .junk, .junk, .junk, .junk, .junk, .junk, .junk, .junk, .junk, .junk, .junk, .junk, .junk, .junk, .junk, .junk, .junk, .junk, .junk, .junk, .junk, .junk, .junk, .junk, .junk, .junk, .junk, .junk, .junk, .junk, .junk, .junk, .junk, .junk, .junk, .junk, .junk, .junk, .junk, .junk, .junk, .junk, .junk, .junk, .junk, .junk, .junk, .junk, .junk, .junk, .junk, .junk, .junk, .junk, .junk, .junk, .junk, .junk, .junk, .junk, .junk, .junk, .junk, .junk, .junk, .junk, .junk, .junk, .junk, .junk, .junk, .junk, .junk, .junk, .junk, .junk, .junk, .junk, .junk, .junk, .junk, .junk, .junk, .junk, .junk, .junk, .junk, .junk, .junk, .junk, .junk, .junk, .junk, .junk, .junk, .junk, .junk, .junk, .junk, .junk, .junk, .junk, .junk, .junk, .junk, .junk, .junk, .junk, .junk, .junk, .junk, .junk, .junk, .junk, .junk, .junk, .junk, .junk, .junk, .junk, .junk, .junk, .junk, .junk, .junk]
def f5_D0 {α : Type} (fr : List KV) (no : α) (yes : KV → KV → KV → α) : α :=
  match pickM f5_M0 fr with
  | some [x1, x2, x3] => yes x1 x2 x3
  | _ => no
theorem f5_D0_inv {β : Type} {fr : List KV} {yes : KV → KV → KV → Option β} {r : β} (h : f5_D0 fr none yes = some r) : ∃ x1 x2 x3, maskK f5_M0 fr = f5_S0 x1 x2 x3 ∧ yes x1 x2 x3 = some r := by
  unfold f5_D0 at h
  split at h
  · rename_i hp
    exact ⟨_, _, _, pickM_mask _ _ _ hp, h⟩
  · cases h
def f5 : AFn := ⟨.seq (.ops [⟨(some 0), .mov (.c (.bool false)), none, [0]⟩])
  (.seq (.seq (.ops [⟨(some 26), .call (.c (.func (.func 7) [] [])) [], none, []⟩,
    ⟨(some 27), .not (.t 26), none, [26]⟩])
  (.cond (.t 27)
   (.seq (.ops [⟨(some 0), .mov (.c (.bool false)), none, [27]⟩])
   (.ret))
   (.skip)))
  (.seq (.ops [⟨(some 28), .buildSlice 1 10 (List.replicate 10 (.junk)) [(0, 1, (.c (.str []))), (1, 1, (.c (.str [2]))), (2, 1, (.c (.str [0, 23]))), (3, 1, (.c (.str [1, 0]))), (4, 1, (.c (.str [1, 0, 255, 23]))), (5, 1, (.c (.str [2, 3]))), (6, 1, (.c (.str [1, 1, 0]))), (7, 1, (.c (.str [1, 1, 0, 23]))), (8, 1, (.c (.str [1, 1, 1, 23]))), (9, 1, (.c (.str [1, 1, 2, 23])))], none, [27]⟩,
    ⟨(some 1), .mov (.t 28), none, [28]⟩])
  (.seq (.ops [⟨(some 29), .buildSlice 1 10 (List.replicate 10 (.junk)) [(0, 1, (.c (.int .i64 3))), (1, 1, (.c (.int .i64 3))), (2, 1, (.c (.int .i64 5))), (3, 1, (.c (.int .i64 3))), (4, 1, (.c (.int .i64 5))), (5, 1, (.c (.int .i64 8))), (6, 1, (.c (.int .i64 3))), (7, 1, (.c (.int .i64 5))), (8, 1, (.c (.int .i64 5))), (9, 1, (.c (.int .i64 0)))], none, []⟩,
    ⟨(some 2), .mov (.t 29), none, [29]⟩])
  (.seq (.seq (.ops [⟨(some 3), .mov (.c (.int .i64 0)), none, []⟩])
  (.block 0 (.loop 0 f5_M0 f5_O0 f5_L0)))
  (.seq (.ops [⟨(some 53), .call (.c (.func (.func 10) [] [])) [(.c (.str [7, 12]))], none, [33]⟩,
    ⟨(some 52), .mov (.t 53), none, [53]⟩,
    ⟨(some 54), .extract (.t 52) 0, none, []⟩,
    ⟨(some 55), .extract (.t 52) 1, none, []⟩,
    ⟨(some 56), .extract (.t 52) 2, none, []⟩,
    ⟨(some 57), .extract (.t 52) 3, none, [52]⟩,
    ⟨(some 8), .mov (.t 54), none, [54]⟩,
    ⟨(some 9), .mov (.t 55), none, [55]⟩,
    ⟨(some 10), .mov (.t 56), none, [56]⟩,
    ⟨(some 11), .mov (.t 57), none, [57]⟩])
  (.seq (.ops [⟨(some 59), .call (.c (.func (.func 8) [] [])) [(.c (.int .i64 3)), (.c (.int .i64 0))], none, []⟩,
    ⟨(some 58), .mov (.t 59), none, [59]⟩,
    ⟨(some 60), .extract (.t 58) 0, none, []⟩,
    ⟨(some 61), .extract (.t 58) 1, none, [58]⟩,
    ⟨(some 12), .mov (.t 60), none, [60, 12]⟩,
    ⟨(some 13), .mov (.t 61), none, [61]⟩])
  (.seq (.ops [⟨(some 63), .call (.c (.func (.func 8) [] [])) [(.c (.int .i64 12)), (.c (.int .i64 65532))], none, []⟩,
    ⟨(some 62), .mov (.t 63), none, [63]⟩,
    ⟨(some 64), .extract (.t 62) 0, none, []⟩,
    ⟨(some 65), .extract (.t 62) 1, none, [62]⟩,
    ⟨(some 14), .mov (.t 64), none, [64, 14]⟩,
    ⟨(some 15), .mov (.t 65), none, [65]⟩])
  (.seq (.ops [⟨(some 67), .call (.c (.func (.func 8) [] [])) [(.c (.int .i64 12)), (.c (.int .i64 (-1)))], none, []⟩,
    ⟨(some 66), .mov (.t 67), none, [67]⟩,
    ⟨(some 68), .extract (.t 66) 0, none, []⟩,
    ⟨(some 69), .extract (.t 66) 1, none, [66]⟩,
    ⟨(some 16), .mov (.t 68), none, [68, 16]⟩,
    ⟨(some 17), .mov (.t 69), none, [69]⟩])
  (.seq (.ops [⟨(some 71), .build [.bool false, .int .i64 0, .bool false, .bool false, .bool false, .int .i64 0] [(0, 1, (.c (.bool true))), (1, 1, (.c (.int .i64 (-1)))), (4, 1, (.c (.bool true))), (5, 1, (.c (.int .i64 2)))], none, []⟩,
    ⟨(some 72), .call (.c (.func (.func 11) [] [])) [(.t 71)], none, [71]⟩,
    ⟨(some 70), .mov (.t 72), none, [72]⟩,
    ⟨(some 73), .extract (.t 70) 0, none, []⟩,
    ⟨(some 74), .extract (.t 70) 1, none, [70]⟩,
    ⟨(some 18), .mov (.t 73), none, [73]⟩,
    ⟨(some 19), .mov (.t 74), none, [74]⟩])
  (.seq (.ops [⟨(some 76), .build [.bool false, .int .i64 0, .bool false, .bool false, .bool false, .int .i64 0] [(1, 1, (.c (.int .i64 3)))], none, []⟩,
    ⟨(some 77), .call (.c (.func (.func 11) [] [])) [(.t 76)], none, [76]⟩,
    ⟨(some 75), .mov (.t 77), none, [77]⟩,
    ⟨(some 78), .extract (.t 75) 0, none, []⟩,
    ⟨(some 79), .extract (.t 75) 1, none, [75]⟩,
    ⟨(some 20), .mov (.t 78), none, [78, 20]⟩,
    ⟨(some 21), .mov (.t 79), none, [79]⟩])
  (.seq (.ops [⟨(some 81), .call (.c (.func (.func 12) [] [])) [(.c (.int .i64 230))], none, []⟩,
    ⟨(some 80), .mov (.t 81), none, [81]⟩,
    ⟨(some 82), .extract (.t 80) 0, none, []⟩,
    ⟨(some 83), .extract (.t 80) 1, none, [80]⟩,
    ⟨(some 22), .new [.bool false, .int .i64 0, .bool false, .bool false, .bool false, .int .i64 0], none, []⟩,
    ⟨none, .store 6 (.t 22) (.t 82), none, [82]⟩,
    ⟨(some 23), .mov (.t 83), none, [83]⟩])
  (.seq (.ops [⟨(some 85), .call (.c (.func (.func 12) [] [])) [(.c (.int .i64 3))], none, []⟩,
    ⟨(some 84), .mov (.t 85), none, [85]⟩,
    ⟨(some 86), .extract (.t 84) 0, none, []⟩,
    ⟨(some 87), .extract (.t 84) 1, none, [84]⟩,
    ⟨(some 24), .new [.bool false, .int .i64 0, .bool false, .bool false, .bool false, .int .i64 0], none, []⟩,
    ⟨none, .store 6 (.t 24) (.t 86), none, [86, 24]⟩,
    ⟨(some 25), .mov (.t 87), none, [87]⟩])
  (.seq (.ops [⟨(some 88), .mov (.t 8), none, [8]⟩,
    ⟨(some 89), .bin .eql .none (.t 88) (.c (.int .i64 12)), none, [88]⟩,
    ⟨(some 90), .mov (.t 89), none, [89]⟩,
    ⟨(some 91), .mov (.t 9), (some (90, true)), [9]⟩,
    ⟨(some 92), .bin .eql .none (.t 91) (.c (.int .i64 2)), (some (90, true)), [91]⟩,
    ⟨(some 93), .pick (.t 90) (.t 92) (.c (.bool false)), none, [92, 90]⟩,
    ⟨(some 94), .mov (.t 93), none, [93]⟩,
    ⟨(some 95), .mov (.t 10), (some (94, true)), [10]⟩,
    ⟨(some 96), .bin .eql .none (.t 95) (.c (.int .i64 7)), (some (94, true)), [95]⟩,
    ⟨(some 97), .pick (.t 94) (.t 96) (.c (.bool false)), none, [96, 94]⟩,
    ⟨(some 98), .mov (.t 97), none, [97]⟩,
    ⟨(some 99), .mov (.t 11), (some (98, true)), [11]⟩,
    ⟨(some 100), .bin .eql .none (.t 99) (.c (.int .i64 0)), (some (98, true)), [99]⟩,
    ⟨(some 101), .pick (.t 98) (.t 100) (.c (.bool false)), none, [100, 98]⟩,
    ⟨(some 102), .mov (.t 101), none, [101]⟩,
    ⟨(some 103), .mov (.t 13), (some (102, true)), [13]⟩,
    ⟨(some 104), .bin .eql .none (.t 103) (.c (.int .i64 8)), (some (102, true)), [103]⟩,
    ⟨(some 105), .pick (.t 102) (.t 104) (.c (.bool false)), none, [104, 102]⟩,
    ⟨(some 106), .mov (.t 105), none, [105]⟩,
    ⟨(some 107), .mov (.t 15), (some (106, true)), [15]⟩,
    ⟨(some 108), .bin .eql .none (.t 107) (.c (.int .i64 4)), (some (106, true)), [107]⟩,
    ⟨(some 109), .pick (.t 106) (.t 108) (.c (.bool false)), none, [108, 106]⟩,
    ⟨(some 110), .mov (.t 109), none, [109]⟩,
    ⟨(some 111), .mov (.t 17), (some (110, true)), [17]⟩,
    ⟨(some 112), .bin .eql .none (.t 111) (.c (.int .i64 2)), (some (110, true)), [111]⟩,
    ⟨(some 113), .pick (.t 110) (.t 112) (.c (.bool false)), none, [112, 110]⟩,
    ⟨(some 114), .mov (.t 113), none, [113]⟩,
    ⟨(some 115), .mov (.t 18), (some (114, true)), [18]⟩,
    ⟨(some 116), .bin .eql .none (.t 115) (.c (.int .i64 230)), (some (114, true)), [115]⟩,
    ⟨(some 117), .pick (.t 114) (.t 116) (.c (.bool false)), none, [116, 114]⟩,
    ⟨(some 118), .mov (.t 117), none, [117]⟩,
    ⟨(some 119), .mov (.t 19), (some (118, true)), [19]⟩,
    ⟨(some 120), .bin .eql .none (.t 119) (.c (.int .i64 0)), (some (118, true)), [119]⟩,
    ⟨(some 121), .pick (.t 118) (.t 120) (.c (.bool false)), none, [120, 118]⟩,
    ⟨(some 122), .mov (.t 121), none, [121]⟩,
    ⟨(some 123), .mov (.t 21), (some (122, true)), [21]⟩,
    ⟨(some 124), .bin .eql .none (.t 123) (.c (.int .i64 7)), (some (122, true)), [123]⟩,
    ⟨(some 125), .pick (.t 122) (.t 124) (.c (.bool false)), none, [124, 122]⟩,
    ⟨(some 126), .mov (.t 125), none, [125]⟩,
    ⟨(some 127), .mov (.t 23), (some (126, true)), [23]⟩,
    ⟨(some 128), .bin .eql .none (.t 127) (.c (.int .i64 0)), (some (126, true)), [127]⟩,
    ⟨(some 129), .pick (.t 126) (.t 128) (.c (.bool false)), none, [128, 126]⟩,
    ⟨(some 130), .mov (.t 129), none, [129]⟩,
    ⟨(some 131), .loadN 6 (.t 22), (some (130, true)), [22]⟩,
    ⟨(some 132), .build [.bool false, .int .i64 0, .bool false, .bool false, .bool false, .int .i64 0] [(0, 1, (.c (.bool true))), (1, 1, (.c (.int .i64 (-1)))), (4, 1, (.c (.bool true))), (5, 1, (.c (.int .i64 2)))], (some (130, true)), []⟩,
    ⟨(some 133), .bin .eql (.agg [.bool, .int .i64, .bool, .bool, .bool, .int .i64]) (.t 131) (.t 132), (some (130, true)), [132, 131]⟩,
    ⟨(some 134), .pick (.t 130) (.t 133) (.c (.bool false)), none, [133, 130]⟩,
    ⟨(some 135), .mov (.t 134), none, [134]⟩,
    ⟨(some 136), .mov (.t 25), (some (135, true)), [25]⟩,
    ⟨(some 137), .bin .eql .none (.t 136) (.c (.int .i64 7)), (some (135, true)), [136]⟩,
    ⟨(some 138), .pick (.t 135) (.t 137) (.c (.bool false)), none, [137, 135]⟩,
    ⟨(some 139), .mov (.t 138), none, [138]⟩,
    ⟨(some 140), .call (.c (.func (.func 9) [] [])) [(.c (.int .i64 254))], (some (139, true)), []⟩,
    ⟨(some 141), .pick (.t 139) (.t 140) (.c (.bool false)), none, [140, 139]⟩,
    ⟨(some 142), .mov (.t 141), none, [141]⟩,
    ⟨(some 143), .call (.c (.func (.func 9) [] [])) [(.c (.int .i64 17))], (some (142, true)), []⟩,
    ⟨(some 144), .not (.t 143), (some (142, true)), [143]⟩,
    ⟨(some 145), .pick (.t 142) (.t 144) (.c (.bool false)), none, [144, 142]⟩,
    ⟨(some 146), .mov (.t 145), none, [145]⟩,
    ⟨(some 147), .call (.c (.func (.func 9) [] [])) [(.c (.int .i64 (-1)))], (some (146, true)), []⟩,
    ⟨(some 148), .not (.t 147), (some (146, true)), [147]⟩,
    ⟨(some 149), .pick (.t 146) (.t 148) (.c (.bool false)), none, [148, 146]⟩,
    ⟨(some 150), .mov (.t 149), none, [149]⟩,
    ⟨(some 151), .call (.c (.func (.func 13) [] [])) [(.c (.int .i64 20))], (some (150, true)), []⟩,
    ⟨(some 152), .build [.bool false, .int .i64 0, .bool false, .bool false, .bool false, .int .i64 0] [(5, 1, (.c (.int .i64 1)))], (some (150, true)), []⟩,
    ⟨(some 153), .bin .eql (.agg [.bool, .int .i64, .bool, .bool, .bool, .int .i64]) (.t 151) (.t 152), (some (150, true)), [152, 151]⟩,
    ⟨(some 154), .pick (.t 150) (.t 153) (.c (.bool false)), none, [153, 150]⟩,
    ⟨(some 155), .mov (.t 154), none, [154]⟩,
    ⟨(some 156), .build [.bool false, .int .i64 0, .bool false, .bool false, .bool false, .int .i64 0] [(1, 1, (.c (.int .i64 (-1))))], (some (155, true)), []⟩,
    ⟨(some 157), .call (.c (.func (.func 14) [] [])) [(.c (.int .i64 12)), (.t 156)], (some (155, true)), [156]⟩,
    ⟨(some 158), .pick (.t 155) (.t 157) (.c (.bool false)), none, [157, 155]⟩,
    ⟨(some 159), .mov (.t 158), none, [158]⟩,
    ⟨(some 160), .build [.bool false, .int .i64 0, .bool false, .bool false, .bool false, .int .i64 0] [(1, 1, (.c (.int .i64 (-1))))], (some (159, true)), []⟩,
    ⟨(some 161), .call (.c (.func (.func 14) [] [])) [(.c (.int .i64 18)), (.t 160)], (some (159, true)), [160]⟩,
    ⟨(some 162), .not (.t 161), (some (159, true)), [161]⟩,
    ⟨(some 163), .pick (.t 159) (.t 162) (.c (.bool false)), none, [162, 159]⟩,
    ⟨(some 164), .mov (.t 163), none, [163]⟩,
    ⟨(some 165), .build [.bool false, .int .i64 0, .bool false, .bool false, .bool false, .int .i64 0] [(2, 1, (.c (.bool true)))], (some (164, true)), []⟩,
    ⟨(some 166), .call (.c (.func (.func 14) [] [])) [(.c (.int .i64 4)), (.t 165)], (some (164, true)), [165]⟩,
    ⟨(some 167), .not (.t 166), (some (164, true)), [166]⟩,
    ⟨(some 168), .pick (.t 164) (.t 167) (.c (.bool false)), none, [167, 164]⟩,
    ⟨(some 0), .mov (.t 168), none, [168]⟩])
  (.ret)))))))))))))), 169, [.tmp 0]⟩
theorem f5_ok : compF Try.prog Try.f5 [⟨0, [], [], [[0]]⟩, ⟨0, [], [], [[], [26]]⟩, ⟨0, [], [], [[27]]⟩, ⟨0, [], [], [[27], [28]]⟩, ⟨0, [], [], [[], [29]]⟩, ⟨0, [], [], [[]]⟩, ⟨0, [false, true, true, true, false, false, false, false, false, false, false, false, false, false, false, false, false, false, false, false, false, false, false, false, false, false, false, false, false, false, false, false, false, false, false, false, false, false, false, false, false, false, false, false, false, false, false, false, false, false, false, false, false, false, false, false, false, false, false, false, false, false, false, false, false, false, false, false, false, false, false, false, false, false, false, false, false, false, false, false, false, false, false, false, false, false, false, false, false, false, false, false, false, false, false, false, false, false, false, false, false, false, false, false, false, false, false, false, false, false, false, false, false, false, false, false, false, false, false, false, false, false, false, false, false, false, false, false, false, false, false, false, false, false, false, false, false, false, false, false, false, false, false, false, false, false, false, false, false, false, false, false, false, false, false, false, false, false, false, false, false, false, false, false, false, false, false, false, false], [true, false, false, false, false, false, false, false, false, false, false, false, false, false, false, false, false, false, false, false, false, false, false, false, false, false, false, false, false, false, false, false, false, false, false, false, false, false, false, false, false, false, false, false, false, false, false, false, false, false, false, false, false, false, false, false, false, false, false, false, false, false, false, false, false, false, false, false, false, false, false, false, false, false, false, false, false, false, false, false, false, false, false, false, false, false, false, false, false, false, false, false, false, false, false, false, false, false, false, false, false, false, false, false, false, false, false, false, false, false, false, false, false, false, false, false, false, false, false, false, false, false, false, false, false, false, false, false, false, false, false, false, false, false, false, false, false, false, false, false, false, false, false, false, false, false, false, false, false, false, false, false, false, false, false, false, false, false, false, false, false, false, false, false, false, false, false, false, false], []⟩, ⟨0, [], [], [[], [], [31], [32, 30]]⟩, ⟨0, [], [], [[33], [], [38, 37], [39], [40], [41], [], [], [], [36], [42, 4], [43, 5], [44, 6], [45]]⟩, ⟨0, [], [], [[7], [], [], [48, 47], [49], [50, 46]]⟩, ⟨0, [], [], [[51]]⟩, ⟨0, [], [], [[51, 3], [34], [35]]⟩, ⟨0, [], [], [[33], [53], [], [], [], [52], [54], [55], [56], [57]]⟩, ⟨0, [], [], [[], [59], [], [58], [60, 12], [61]]⟩, ⟨0, [], [], [[], [63], [], [62], [64, 14], [65]]⟩, ⟨0, [], [], [[], [67], [], [66], [68, 16], [69]]⟩, ⟨0, [], [], [[], [71], [72], [], [70], [73], [74]]⟩, ⟨0, [], [], [[], [76], [77], [], [75], [78, 20], [79]]⟩, ⟨0, [], [], [[], [81], [], [80], [], [82], [83]]⟩, ⟨0, [], [], [[], [85], [], [84], [], [86, 24], [87]]⟩, ⟨0, [], [], [[8], [88], [89], [9], [91], [92, 90], [93], [10], [95], [96, 94], [97], [11], [99], [100, 98], [101], [13], [103], [104, 102], [105], [15], [107], [108, 106], [109], [17], [111], [112, 110], [113], [18], [115], [116, 114], [117], [19], [119], [120, 118], [121], [21], [123], [124, 122], [125], [23], [127], [128, 126], [129], [22], [], [132, 131], [133, 130], [134], [25], [136], [137, 135], [138], [], [140, 139], [141], [], [143], [144, 142], [145], [], [147], [148, 146], [149], [], [], [152, 151], [153, 150], [154], [], [156], [157, 155], [158], [], [160], [161], [162, 159], [163], [], [165], [166], [167, 164], [168]]⟩] = some f5 := by kernel_rfl

/-! 6: polyglot/polyglotlaw21.SnheadCalls -/
def f6 : AFn := ⟨.seq (.ops [⟨(some 7), .box (.t 3), none, [3]⟩,
    ⟨(some 8), .mov (.c (.bool false)), none, [8]⟩])
  (.seq (.seq (.ops [⟨(some 29), .call (.c (.func (.func 7) [] [])) [], none, []⟩,
    ⟨(some 30), .not (.t 29), none, [29]⟩])
  (.cond (.t 30)
   (.seq (.ops [⟨(some 8), .mov (.c (.bool false)), none, [30]⟩])
   (.ret))
   (.skip)))
  (.seq (.seq (.ops [⟨(some 31), .mov (.t 2), none, [30]⟩,
    ⟨(some 32), .lenS (.t 31), none, [31]⟩,
    ⟨(some 33), .bin .gtr .none (.t 32) (.c (.int .i64 100)), none, [32]⟩])
  (.cond (.t 33)
   (.seq (.ops [⟨(some 8), .mov (.c (.bool true)), none, [33]⟩])
   (.ret))
   (.skip)))
  (.seq (.ops [⟨(some 35), .mov (.t 0), none, [33]⟩,
    ⟨(some 36), .mov (.t 1), none, []⟩,
    ⟨(some 37), .call (.c (.func (.func 8) [] [])) [(.t 35), (.t 36)], none, [35, 36]⟩,
    ⟨(some 34), .mov (.t 37), none, [37]⟩,
    ⟨(some 38), .extract (.t 34) 0, none, []⟩,
    ⟨(some 39), .extract (.t 34) 1, none, [34]⟩,
    ⟨(some 9), .mov (.t 38), none, [38]⟩,
    ⟨(some 10), .mov (.t 39), none, [39]⟩])
  (.seq (.ops [⟨(some 41), .mov (.t 0), none, []⟩,
    ⟨(some 42), .mov (.t 1), none, []⟩,
    ⟨(some 43), .call (.c (.func (.func 15) [] [])) [(.t 41), (.t 42)], none, [41, 42]⟩,
    ⟨(some 40), .mov (.t 43), none, [43]⟩,
    ⟨(some 44), .extract (.t 40) 0, none, []⟩,
    ⟨(some 45), .extract (.t 40) 1, none, [40]⟩,
    ⟨(some 11), .mov (.t 44), none, [44]⟩,
    ⟨(some 12), .mov (.t 45), none, [45]⟩])
  (.seq (.ops [⟨(some 47), .mov (.t 2), none, []⟩,
    ⟨(some 48), .call (.c (.func (.func 10) [] [])) [(.t 47)], none, [47]⟩,
    ⟨(some 46), .mov (.t 48), none, [48]⟩,
    ⟨(some 49), .extract (.t 46) 0, none, []⟩,
    ⟨(some 50), .extract (.t 46) 1, none, []⟩,
    ⟨(some 51), .extract (.t 46) 2, none, []⟩,
    ⟨(some 52), .extract (.t 46) 3, none, [46]⟩,
    ⟨(some 13), .mov (.t 49), none, [49]⟩,
    ⟨(some 14), .mov (.t 50), none, [50]⟩,
    ⟨(some 15), .mov (.t 51), none, [51]⟩,
    ⟨(some 16), .mov (.t 52), none, [52]⟩])
  (.seq (.ops [⟨(some 54), .mov (.t 2), none, [2]⟩,
    ⟨(some 55), .call (.c (.func (.func 16) [] [])) [(.t 54)], none, [54]⟩,
    ⟨(some 53), .mov (.t 55), none, [55]⟩,
    ⟨(some 56), .extract (.t 53) 0, none, []⟩,
    ⟨(some 57), .extract (.t 53) 1, none, []⟩,
    ⟨(some 58), .extract (.t 53) 2, none, []⟩,
    ⟨(some 59), .extract (.t 53) 3, none, [53]⟩,
    ⟨(some 17), .mov (.t 56), none, [56]⟩,
    ⟨(some 18), .mov (.t 57), none, [57]⟩,
    ⟨(some 19), .mov (.t 58), none, [58]⟩,
    ⟨(some 20), .mov (.t 59), none, [59]⟩])
  (.seq (.ops [⟨(some 61), .loadN 6 (.t 7), none, []⟩,
    ⟨(some 62), .call (.c (.func (.func 11) [] [])) [(.t 61)], none, [61]⟩,
    ⟨(some 60), .mov (.t 62), none, [62]⟩,
    ⟨(some 63), .extract (.t 60) 0, none, []⟩,
    ⟨(some 64), .extract (.t 60) 1, none, [60]⟩,
    ⟨(some 21), .mov (.t 63), none, [63]⟩,
    ⟨(some 22), .mov (.t 64), none, [64]⟩])
  (.seq (.ops [⟨(some 66), .loadN 6 (.t 7), none, []⟩,
    ⟨(some 67), .call (.c (.func (.func 17) [] [])) [(.t 66)], none, [66]⟩,
    ⟨(some 65), .mov (.t 67), none, [67]⟩,
    ⟨(some 68), .extract (.t 65) 0, none, []⟩,
    ⟨(some 69), .extract (.t 65) 1, none, [65]⟩,
    ⟨(some 23), .mov (.t 68), none, [68]⟩,
    ⟨(some 24), .mov (.t 69), none, [69]⟩])
  (.seq (.ops [⟨(some 71), .mov (.t 1), none, []⟩,
    ⟨(some 72), .call (.c (.func (.func 12) [] [])) [(.t 71)], none, [71]⟩,
    ⟨(some 70), .mov (.t 72), none, [72]⟩,
    ⟨(some 73), .extract (.t 70) 0, none, []⟩,
    ⟨(some 74), .extract (.t 70) 1, none, [70]⟩,
    ⟨(some 25), .new [.bool false, .int .i64 0, .bool false, .bool false, .bool false, .int .i64 0], none, []⟩,
    ⟨none, .store 6 (.t 25) (.t 73), none, [73]⟩,
    ⟨(some 26), .mov (.t 74), none, [74]⟩])
  (.seq (.ops [⟨(some 76), .mov (.t 1), none, [1]⟩,
    ⟨(some 77), .call (.c (.func (.func 18) [] [])) [(.t 76)], none, [76]⟩,
    ⟨(some 75), .mov (.t 77), none, [77]⟩,
    ⟨(some 78), .extract (.t 75) 0, none, []⟩,
    ⟨(some 79), .extract (.t 75) 1, none, [75]⟩,
    ⟨(some 27), .new [.bool false, .int .i64 0, .bool false, .bool false, .bool false, .int .i64 0], none, []⟩,
    ⟨none, .store 6 (.t 27) (.t 78), none, [78]⟩,
    ⟨(some 28), .mov (.t 79), none, [79]⟩])
  (.seq (.quiet [⟨(some 80), .mov (.t 9), none, [9]⟩,
    ⟨(some 81), .mov (.t 11), none, [11]⟩,
    ⟨(some 82), .bin .eql .none (.t 80) (.t 81), none, [81, 80]⟩,
    ⟨(some 83), .mov (.t 82), none, [82]⟩,
    ⟨(some 84), .mov (.t 10), (some (83, true)), [10]⟩,
    ⟨(some 85), .mov (.t 12), (some (83, true)), [12]⟩,
    ⟨(some 86), .bin .eql .none (.t 84) (.t 85), (some (83, true)), [85, 84]⟩,
    ⟨(some 87), .pick (.t 83) (.t 86) (.c (.bool false)), none, [86, 83]⟩,
    ⟨(some 88), .mov (.t 87), none, [87]⟩,
    ⟨(some 89), .mov (.t 13), (some (88, true)), [13]⟩,
    ⟨(some 90), .mov (.t 17), (some (88, true)), [17]⟩,
    ⟨(some 91), .bin .eql .none (.t 89) (.t 90), (some (88, true)), [90, 89]⟩,
    ⟨(some 92), .pick (.t 88) (.t 91) (.c (.bool false)), none, [91, 88]⟩,
    ⟨(some 93), .mov (.t 92), none, [92]⟩,
    ⟨(some 94), .mov (.t 14), (some (93, true)), [14]⟩,
    ⟨(some 95), .mov (.t 18), (some (93, true)), [18]⟩,
    ⟨(some 96), .bin .eql .none (.t 94) (.t 95), (some (93, true)), [95, 94]⟩,
    ⟨(some 97), .pick (.t 93) (.t 96) (.c (.bool false)), none, [96, 93]⟩,
    ⟨(some 98), .mov (.t 97), none, [97]⟩,
    ⟨(some 99), .mov (.t 15), (some (98, true)), [15]⟩,
    ⟨(some 100), .mov (.t 19), (some (98, true)), [19]⟩,
    ⟨(some 101), .bin .eql .none (.t 99) (.t 100), (some (98, true)), [100, 99]⟩,
    ⟨(some 102), .pick (.t 98) (.t 101) (.c (.bool false)), none, [101, 98]⟩,
    ⟨(some 103), .mov (.t 102), none, [102]⟩,
    ⟨(some 104), .mov (.t 16), (some (103, true)), [16]⟩,
    ⟨(some 105), .mov (.t 20), (some (103, true)), [20]⟩,
    ⟨(some 106), .bin .eql .none (.t 104) (.t 105), (some (103, true)), [105, 104]⟩,
    ⟨(some 107), .pick (.t 103) (.t 106) (.c (.bool false)), none, [106, 103]⟩,
    ⟨(some 108), .mov (.t 107), none, [107]⟩,
    ⟨(some 109), .mov (.t 21), (some (108, true)), [21]⟩,
    ⟨(some 110), .mov (.t 23), (some (108, true)), [23]⟩,
    ⟨(some 111), .bin .eql .none (.t 109) (.t 110), (some (108, true)), [110, 109]⟩,
    ⟨(some 112), .pick (.t 108) (.t 111) (.c (.bool false)), none, [111, 108]⟩,
    ⟨(some 113), .mov (.t 112), none, [112]⟩,
    ⟨(some 114), .mov (.t 22), (some (113, true)), [22]⟩,
    ⟨(some 115), .mov (.t 24), (some (113, true)), [24]⟩,
    ⟨(some 116), .bin .eql .none (.t 114) (.t 115), (some (113, true)), [115, 114]⟩,
    ⟨(some 117), .pick (.t 113) (.t 116) (.c (.bool false)), none, [116, 113]⟩,
    ⟨(some 118), .mov (.t 117), none, [117]⟩,
    ⟨(some 119), .loadN 6 (.t 25), (some (118, true)), [25]⟩,
    ⟨(some 120), .loadN 6 (.t 27), (some (118, true)), [27]⟩,
    ⟨(some 121), .bin .eql (.agg [.bool, .int .i64, .bool, .bool, .bool, .int .i64]) (.t 119) (.t 120), (some (118, true)), [120, 119]⟩,
    ⟨(some 122), .pick (.t 118) (.t 121) (.c (.bool false)), none, [121, 118]⟩,
    ⟨(some 123), .mov (.t 122), none, [122]⟩,
    ⟨(some 124), .mov (.t 26), (some (123, true)), [26]⟩,
    ⟨(some 125), .mov (.t 28), (some (123, true)), [28]⟩,
    ⟨(some 126), .bin .eql .none (.t 124) (.t 125), (some (123, true)), [125, 124]⟩,
    ⟨(some 127), .pick (.t 123) (.t 126) (.c (.bool false)), none, [126, 123]⟩,
    ⟨(some 128), .mov (.t 127), none, [127]⟩,
    ⟨(some 129), .mov (.t 0), (some (128, true)), []⟩,
    ⟨(some 130), .call (.c (.func (.func 9) [] [])) [(.t 129)], (some (128, true)), [129]⟩,
    ⟨(some 131), .mov (.t 0), (some (128, true)), []⟩,
    ⟨(some 132), .call (.c (.func (.func 19) [] [])) [(.t 131)], (some (128, true)), [131]⟩,
    ⟨(some 133), .bin .eql .bool (.t 130) (.t 132), (some (128, true)), [132, 130]⟩,
    ⟨(some 134), .pick (.t 128) (.t 133) (.c (.bool false)), none, [133, 128]⟩,
    ⟨(some 135), .mov (.t 134), none, [134]⟩,
    ⟨(some 136), .mov (.t 0), (some (135, true)), []⟩,
    ⟨(some 137), .call (.c (.func (.func 13) [] [])) [(.t 136)], (some (135, true)), [136]⟩,
    ⟨(some 138), .mov (.t 0), (some (135, true)), []⟩,
    ⟨(some 139), .call (.c (.func (.func 20) [] [])) [(.t 138)], (some (135, true)), [138]⟩,
    ⟨(some 140), .bin .eql (.agg [.bool, .int .i64, .bool, .bool, .bool, .int .i64]) (.t 137) (.t 139), (some (135, true)), [139, 137]⟩,
    ⟨(some 141), .pick (.t 135) (.t 140) (.c (.bool false)), none, [140, 135]⟩,
    ⟨(some 142), .mov (.t 141), none, [141]⟩,
    ⟨(some 143), .mov (.t 0), (some (142, true)), []⟩,
    ⟨(some 144), .loadN 6 (.t 7), (some (142, true)), []⟩,
    ⟨(some 145), .call (.c (.func (.func 14) [] [])) [(.t 143), (.t 144)], (some (142, true)), [143, 144]⟩,
    ⟨(some 146), .mov (.t 0), (some (142, true)), [0]⟩,
    ⟨(some 147), .loadN 6 (.t 7), (some (142, true)), [7]⟩,
    ⟨(some 148), .call (.c (.func (.func 21) [] [])) [(.t 146), (.t 147)], (some (142, true)), [146, 147]⟩,
    ⟨(some 149), .bin .eql .bool (.t 145) (.t 148), (some (142, true)), [148, 145]⟩,
    ⟨(some 150), .pick (.t 142) (.t 149) (.c (.bool false)), none, [149, 142]⟩,
    ⟨(some 8), .mov (.t 150), none, [150]⟩])
  (.ret)))))))))))), 151, [.tmp 8]⟩
theorem f6_ok : compF Try.prog Try.f6 [⟨0, [], [], [[3], [8]]⟩, ⟨0, [], [], [[], [29]]⟩, ⟨0, [], [], [[30]]⟩, ⟨0, [], [], [[30], [31], [32]]⟩, ⟨0, [], [], [[33]]⟩, ⟨0, [], [], [[33], [], [35, 36], [37], [], [34], [38], [39]]⟩, ⟨0, [], [], [[], [], [41, 42], [43], [], [40], [44], [45]]⟩, ⟨0, [], [], [[], [47], [48], [], [], [], [46], [49], [50], [51], [52]]⟩, ⟨0, [], [], [[2], [54], [55], [], [], [], [53], [56], [57], [58], [59]]⟩, ⟨0, [], [], [[], [61], [62], [], [60], [63], [64]]⟩, ⟨0, [], [], [[], [66], [67], [], [65], [68], [69]]⟩, ⟨0, [], [], [[], [71], [72], [], [70], [], [73], [74]]⟩, ⟨0, [], [], [[1], [76], [77], [], [75], [], [78], [79]]⟩, ⟨0, [], [], [[9], [11], [81, 80], [82], [10], [12], [85, 84], [86, 83], [87], [13], [17], [90, 89], [91, 88], [92], [14], [18], [95, 94], [96, 93], [97], [15], [19], [100, 99], [101, 98], [102], [16], [20], [105, 104], [106, 103], [107], [21], [23], [110, 109], [111, 108], [112], [22], [24], [115, 114], [116, 113], [117], [25], [27], [120, 119], [121, 118], [122], [26], [28], [125, 124], [126, 123], [127], [], [129], [], [131], [132, 130], [133, 128], [134], [], [136], [], [138], [139, 137], [140, 135], [141], [], [], [143, 144], [0], [7], [146, 147], [148, 145], [149, 142], [150]]⟩] = some f6 := by kernel_rfl

/-! 7: polyglot/polyglotlaw21.lives -/
def f7 : AFn := ⟨.seq (.ops [⟨(some 0), .mov (.c (.bool false)), none, [0]⟩])
  (.seq (.ops [⟨(some 6), .call (.c (.func (.func 8) [] [])) [(.c (.int .i64 23)), (.c (.int .i64 0))], none, []⟩,
    ⟨(some 5), .mov (.t 6), none, [6]⟩,
    ⟨(some 7), .extract (.t 5) 0, none, []⟩,
    ⟨(some 8), .extract (.t 5) 1, none, [5]⟩,
    ⟨(some 1), .mov (.t 7), none, [7]⟩,
    ⟨(some 2), .mov (.t 8), none, [8]⟩])
  (.seq (.ops [⟨(some 10), .call (.c (.func (.func 8) [] [])) [(.c (.int .i64 12)), (.c (.int .i64 300))], none, []⟩,
    ⟨(some 9), .mov (.t 10), none, [10]⟩,
    ⟨(some 11), .extract (.t 9) 0, none, []⟩,
    ⟨(some 12), .extract (.t 9) 1, none, [9]⟩,
    ⟨(some 3), .mov (.t 11), none, [11]⟩,
    ⟨(some 4), .mov (.t 12), none, [12]⟩])
  (.seq (.ops [⟨(some 13), .mov (.t 2), none, [2]⟩,
    ⟨(some 14), .bin .eql .none (.t 13) (.c (.int .i64 0)), none, [13]⟩,
    ⟨(some 15), .mov (.t 14), none, [14]⟩,
    ⟨(some 16), .mov (.t 4), (some (15, true)), [4]⟩,
    ⟨(some 17), .bin .eql .none (.t 16) (.c (.int .i64 0)), (some (15, true)), [16]⟩,
    ⟨(some 18), .pick (.t 15) (.t 17) (.c (.bool false)), none, [17, 15]⟩,
    ⟨(some 19), .mov (.t 18), none, [18]⟩,
    ⟨(some 20), .mov (.t 1), (some (19, true)), [1]⟩,
    ⟨(some 21), .bin .eql .none (.t 20) (.c (.str [2, 23])), (some (19, true)), [20]⟩,
    ⟨(some 22), .pick (.t 19) (.t 21) (.c (.bool false)), none, [21, 19]⟩,
    ⟨(some 23), .mov (.t 22), none, [22]⟩,
    ⟨(some 24), .mov (.t 3), (some (23, true)), [3]⟩,
    ⟨(some 25), .bin .eql .none (.t 24) (.c (.str [1, 1, 48, 12])), (some (23, true)), [24]⟩,
    ⟨(some 26), .pick (.t 23) (.t 25) (.c (.bool false)), none, [25, 23]⟩,
    ⟨(some 0), .mov (.t 26), none, [26]⟩])
  (.ret)))), 27, [.tmp 0]⟩
theorem f7_ok : compF Try.prog Try.f7 [⟨0, [], [], [[0]]⟩, ⟨0, [], [], [[], [6], [], [5], [7], [8]]⟩, ⟨0, [], [], [[], [10], [], [9], [11], [12]]⟩, ⟨0, [], [], [[2], [13], [14], [4], [16], [17, 15], [18], [1], [20], [21, 19], [22], [3], [24], [25, 23], [26]]⟩] = some f7 := by kernel_rfl

/-! 8: polyglot/snhead.Bytes -/
def f8 : AFn := ⟨.seq (.ops [⟨(some 4), .mov (.c (.str [])), none, [4]⟩,
    ⟨(some 5), .mov (.c (.int .i64 0)), none, [5]⟩])
  (.seq (.seq (.ops [⟨(some 6), .mov (.t 0), none, []⟩,
    ⟨(some 7), .call (.c (.func (.func 9) [] [])) [(.t 6)], none, [6]⟩,
    ⟨(some 8), .not (.t 7), none, [7]⟩])
  (.cond (.t 8)
   (.seq (.ops [⟨(some 4), .mov (.c (.str [])), none, [8]⟩,
     ⟨(some 5), .mov (.c (.int .i64 8)), none, []⟩])
   (.ret))
   (.skip)))
  (.seq (.seq (.ops [⟨(some 9), .mov (.t 1), none, [8]⟩,
    ⟨(some 10), .bin .lss .none (.t 9) (.c (.int .i64 0)), none, [9]⟩])
  (.cond (.t 10)
   (.seq (.ops [⟨(some 4), .mov (.c (.str [])), none, [10]⟩,
     ⟨(some 5), .mov (.c (.int .i64 2)), none, []⟩])
   (.ret))
   (.skip)))
  (.seq (.seq (.ops [⟨(some 11), .mov (.t 1), none, [10]⟩,
    ⟨(some 12), .bin .gtr .none (.t 11) (.c (.int .i64 65531)), none, [11]⟩])
  (.cond (.t 12)
   (.seq (.ops [⟨(some 4), .mov (.c (.str [])), none, [12]⟩,
     ⟨(some 5), .mov (.c (.int .i64 4)), none, []⟩])
   (.ret))
   (.skip)))
  (.seq (.seq (.ops [⟨(some 13), .mov (.t 1), none, [12]⟩,
    ⟨(some 14), .bin .add .none (.t 13) (.c (.int .i64 2)), none, [13]⟩,
    ⟨(some 15), .bin .leq .none (.t 14) (.c (.int .i64 255)), none, [14]⟩])
  (.cond (.t 15)
   (.seq (.ops [⟨(some 16), .mov (.t 1), none, [15, 1]⟩,
     ⟨(some 17), .bin .add .none (.t 16) (.c (.int .i64 2)), none, [16]⟩,
     ⟨(some 18), .conv .u64 (.t 17), none, [17]⟩,
     ⟨(some 19), .call (.c (.func (.func 22) [] [])) [(.t 18), (.c (.int .i64 1))], none, [18]⟩,
     ⟨(some 20), .mov (.t 0), none, [0]⟩,
     ⟨(some 21), .conv .u64 (.t 20), none, [20]⟩,
     ⟨(some 22), .call (.c (.func (.func 22) [] [])) [(.t 21), (.c (.int .i64 1))], none, [21]⟩,
     ⟨(some 23), .bin .add .none (.t 19) (.t 22), none, [22, 19]⟩,
     ⟨(some 4), .mov (.t 23), none, [23]⟩,
     ⟨(some 5), .mov (.c (.int .i64 0)), none, []⟩])
   (.ret))
   (.skip)))
  (.seq (.ops [⟨(some 24), .call (.c (.func (.func 22) [] [])) [(.c (.int .u64 1)), (.c (.int .i64 1))], none, [15]⟩,
    ⟨(some 25), .mov (.t 1), none, [1]⟩,
    ⟨(some 26), .bin .add .none (.t 25) (.c (.int .i64 4)), none, [25]⟩,
    ⟨(some 27), .conv .u64 (.t 26), none, [26]⟩,
    ⟨(some 28), .call (.c (.func (.func 22) [] [])) [(.t 27), (.c (.int .i64 2))], none, [27]⟩,
    ⟨(some 29), .bin .add .none (.t 24) (.t 28), none, [28, 24]⟩,
    ⟨(some 30), .mov (.t 0), none, [0]⟩,
    ⟨(some 31), .conv .u64 (.t 30), none, [30]⟩,
    ⟨(some 32), .call (.c (.func (.func 22) [] [])) [(.t 31), (.c (.int .i64 1))], none, [31]⟩,
    ⟨(some 33), .bin .add .none (.t 29) (.t 32), none, [32, 29]⟩,
    ⟨(some 4), .mov (.t 33), none, [33]⟩,
    ⟨(some 5), .mov (.c (.int .i64 0)), none, []⟩])
  (.ret)))))), 34, [.tmp 4, .tmp 5]⟩
theorem f8_ok : compF Try.prog Try.f8 [⟨0, [], [], [[4], [5]]⟩, ⟨0, [], [], [[], [6], [7]]⟩, ⟨0, [], [], [[8], []]⟩, ⟨0, [], [], [[8], [9]]⟩, ⟨0, [], [], [[10], []]⟩, ⟨0, [], [], [[10], [11]]⟩, ⟨0, [], [], [[12], []]⟩, ⟨0, [], [], [[12], [13], [14]]⟩, ⟨0, [], [], [[15, 1], [16], [17], [18], [0], [20], [21], [22, 19], [23], []]⟩, ⟨0, [], [], [[15], [1], [25], [26], [27], [28, 24], [0], [30], [31], [32, 29], [33], []]⟩] = some f8 := by kernel_rfl

/-! 9: polyglot/snhead.Known -/
def f9 : AFn := ⟨.seq (.ops [⟨(some 2), .mov (.c (.bool false)), none, [2]⟩])
  (.seq (.seq (.ops [⟨(some 3), .mov (.t 0), none, []⟩])
  (.block 0 (.seq (.seq (.ops [⟨(some 5), .bin .eql .none (.t 3) (.c (.int .i64 3)), none, []⟩,
     ⟨(some 4), .mov (.t 5), none, [5]⟩])
   (.cond (.t 4)
    (.skip)
    (.seq (.ops [⟨(some 6), .bin .eql .none (.t 3) (.c (.int .i64 17)), none, [4]⟩,
      ⟨(some 4), .mov (.t 6), none, [6]⟩])
    (.cond (.t 4)
     (.skip)
     (.ops [⟨(some 7), .bin .eql .none (.t 3) (.c (.int .i64 25)), none, [4]⟩,
       ⟨(some 4), .mov (.t 7), none, [7]⟩])))))
   (.cond (.t 4)
    (.seq (.ops [⟨(some 2), .mov (.c (.bool false)), none, [4]⟩])
    (.ret))
    (.seq (.ops [⟨(some 9), .bin .eql .none (.t 3) (.c (.int .i64 254)), none, [4, 3]⟩,
      ⟨(some 8), .mov (.t 9), none, [9]⟩])
    (.cond (.t 8)
     (.seq (.ops [⟨(some 2), .mov (.c (.bool true)), none, [8]⟩])
     (.ret))
     (.skip)))))))
  (.seq (.ops [⟨(some 10), .mov (.t 0), none, [8]⟩,
    ⟨(some 11), .bin .geq .none (.t 10) (.c (.int .i64 0)), none, [10]⟩,
    ⟨(some 12), .mov (.t 11), none, [11]⟩,
    ⟨(some 13), .mov (.t 0), (some (12, true)), [0]⟩,
    ⟨(some 14), .bin .leq .none (.t 13) (.c (.int .i64 29)), (some (12, true)), [13]⟩,
    ⟨(some 15), .pick (.t 12) (.t 14) (.c (.bool false)), none, [14, 12]⟩,
    ⟨(some 2), .mov (.t 15), none, [15]⟩])
  (.ret))), 16, [.tmp 2]⟩
theorem f9_ok : compF Try.prog Try.f9 [⟨0, [], [], [[2]]⟩, ⟨0, [], [], [[]]⟩, ⟨0, [], [], [[], [5]]⟩, ⟨0, [], [], [[4], [6]]⟩, ⟨0, [], [], [[4], [7]]⟩, ⟨0, [], [], [[4]]⟩, ⟨0, [], [], [[4, 3], [9]]⟩, ⟨0, [], [], [[8]]⟩, ⟨0, [], [], [[8], [10], [11], [0], [13], [14, 12], [15]]⟩] = some f9 := by kernel_rfl

/-! 10: polyglot/snhead.Read -/
def f10 : AFn := ⟨.seq (.ops [⟨(some 2), .mov (.c (.int .i64 0)), none, [2]⟩,
    ⟨(some 3), .mov (.c (.int .i64 0)), none, [3]⟩,
    ⟨(some 4), .mov (.c (.int .i64 0)), none, [4]⟩,
    ⟨(some 5), .mov (.c (.int .i64 0)), none, [5]⟩])
  (.seq (.ops [⟨(some 7), .mov (.t 0), none, [0]⟩,
    ⟨(some 8), .call (.c (.func (.func 23) [] [])) [(.t 7)], none, [7]⟩,
    ⟨(some 6), .mov (.t 8), none, [8]⟩])
  (.seq (.ops [⟨(some 9), .mov (.t 6), none, []⟩,
    ⟨(some 10), .call (.c (.func (.func 24) [] [])) [(.t 9), (.c (.int .i64 1))], none, [9]⟩,
    ⟨(some 11), .conv .i64 (.t 10), none, [10]⟩,
    ⟨(some 4), .mov (.t 11), none, [11]⟩,
    ⟨(some 3), .mov (.c (.int .i64 2)), none, []⟩])
  (.seq (.seq (.ops [⟨(some 12), .mov (.t 4), none, []⟩,
    ⟨(some 13), .bin .eql .none (.t 12) (.c (.int .i64 1)), none, [12]⟩])
  (.cond (.t 13)
   (.ops [⟨(some 14), .mov (.t 6), none, [13]⟩,
     ⟨(some 15), .call (.c (.func (.func 24) [] [])) [(.t 14), (.c (.int .i64 2))], none, [14]⟩,
     ⟨(some 16), .conv .i64 (.t 15), none, [15]⟩,
     ⟨(some 4), .mov (.t 16), none, [16]⟩,
     ⟨(some 3), .mov (.c (.int .i64 4)), none, []⟩])
   (.skip)))
  (.seq (.ops [⟨(some 17), .mov (.t 6), none, [13]⟩,
    ⟨(some 18), .call (.c (.func (.func 24) [] [])) [(.t 17), (.c (.int .i64 1))], none, [17]⟩,
    ⟨(some 19), .conv .i64 (.t 18), none, [18]⟩,
    ⟨(some 2), .mov (.t 19), none, [19]⟩])
  (.seq (.seq (.ops [⟨(some 20), .mov (.t 6), none, [6]⟩,
    ⟨(some 21), .call (.c (.func (.func 25) [] [])) [(.t 20)], none, [20]⟩,
    ⟨(some 5), .mov (.t 21), none, [21]⟩])
  (.seq (.ops [⟨(some 22), .mov (.t 5), none, []⟩,
    ⟨(some 23), .bin .neq .none (.t 22) (.c (.int .i64 0)), none, [22]⟩])
  (.cond (.t 23)
   (.seq (.ops [⟨(some 24), .mov (.t 5), none, [23, 5]⟩,
     ⟨(some 2), .mov (.c (.int .i64 0)), none, []⟩,
     ⟨(some 3), .mov (.c (.int .i64 0)), none, []⟩,
     ⟨(some 4), .mov (.c (.int .i64 0)), none, []⟩,
     ⟨(some 5), .mov (.t 24), none, [24]⟩])
   (.ret))
   (.skip))))
  (.seq (.seq (.ops [⟨(some 25), .mov (.t 4), none, [23]⟩,
    ⟨(some 26), .mov (.t 3), none, []⟩,
    ⟨(some 27), .bin .lss .none (.t 25) (.t 26), none, [26, 25]⟩,
    ⟨(some 28), .mov (.t 27), none, [27]⟩,
    ⟨(some 29), .mov (.t 3), (some (28, false)), []⟩,
    ⟨(some 30), .bin .eql .none (.t 29) (.c (.int .i64 4)), (some (28, false)), [29]⟩,
    ⟨(some 31), .mov (.t 30), (some (28, false)), [30]⟩,
    ⟨(some 32), .mov (.t 4), (some (31, true)), []⟩,
    ⟨(some 33), .bin .lss .none (.t 32) (.c (.int .i64 258)), (some (31, true)), [32]⟩,
    ⟨(some 34), .pick (.t 31) (.t 33) (.c (.bool false)), (some (28, false)), [33, 31]⟩,
    ⟨(some 35), .pick (.t 28) (.c (.bool true)) (.t 34), none, [34, 28]⟩])
  (.cond (.t 35)
   (.seq (.ops [⟨(some 2), .mov (.c (.int .i64 0)), none, [35]⟩,
     ⟨(some 3), .mov (.c (.int .i64 0)), none, []⟩,
     ⟨(some 4), .mov (.c (.int .i64 0)), none, []⟩,
     ⟨(some 5), .mov (.c (.int .i64 5)), none, []⟩])
   (.ret))
   (.skip)))
  (.seq (.seq (.ops [⟨(some 36), .mov (.t 2), none, [35]⟩,
    ⟨(some 37), .call (.c (.func (.func 9) [] [])) [(.t 36)], none, [36]⟩,
    ⟨(some 38), .not (.t 37), none, [37]⟩])
  (.cond (.t 38)
   (.seq (.ops [⟨(some 2), .mov (.c (.int .i64 0)), none, [38]⟩,
     ⟨(some 3), .mov (.c (.int .i64 0)), none, []⟩,
     ⟨(some 4), .mov (.c (.int .i64 0)), none, []⟩,
     ⟨(some 5), .mov (.c (.int .i64 8)), none, []⟩])
   (.ret))
   (.skip)))
  (.seq (.ops [⟨(some 39), .mov (.t 2), none, [38, 2]⟩,
    ⟨(some 40), .mov (.t 3), none, [3]⟩,
    ⟨(some 41), .mov (.t 4), none, [4]⟩,
    ⟨(some 2), .mov (.t 39), none, [39]⟩,
    ⟨(some 3), .mov (.t 40), none, [40]⟩,
    ⟨(some 4), .mov (.t 41), none, [41]⟩,
    ⟨(some 5), .mov (.c (.int .i64 0)), none, []⟩])
  (.ret))))))))), 42, [.tmp 2, .tmp 3, .tmp 4, .tmp 5]⟩
theorem f10_ok : compF Try.prog Try.f10 [⟨0, [], [], [[2], [3], [4], [5]]⟩, ⟨0, [], [], [[0], [7], [8]]⟩, ⟨0, [], [], [[], [9], [10], [11], []]⟩, ⟨0, [], [], [[], [12]]⟩, ⟨0, [], [], [[13], [14], [15], [16], []]⟩, ⟨0, [], [], [[13], [17], [18], [19]]⟩, ⟨0, [], [], [[6], [20], [21]]⟩, ⟨0, [], [], [[], [22]]⟩, ⟨0, [], [], [[23, 5], [], [], [], [24]]⟩, ⟨0, [], [], [[23], [], [26, 25], [27], [], [29], [30], [], [32], [33, 31], [34, 28]]⟩, ⟨0, [], [], [[35], [], [], []]⟩, ⟨0, [], [], [[35], [36], [37]]⟩, ⟨0, [], [], [[38], [], [], []]⟩, ⟨0, [], [], [[38, 2], [3], [4], [39], [40], [41], []]⟩] = some f10 := by kernel_rfl

/-! 11: polyglot/snhead.Flag -/
def f11 : AFn := ⟨.seq (.ops [⟨(some 1), .box (.t 0), none, [0]⟩,
    ⟨(some 2), .mov (.c (.int .i64 0)), none, [2]⟩,
    ⟨(some 3), .mov (.c (.int .i64 0)), none, [3]⟩])
  (.seq (.seq (.ops [⟨(some 6), .fieldAddr 1 (.t 1), none, []⟩,
    ⟨(some 7), .load1 (.t 6), none, [6]⟩,
    ⟨(some 8), .bin .lss .none (.t 7) (.c (.int .i64 (-1))), none, [7]⟩,
    ⟨(some 9), .mov (.t 8), none, [8]⟩,
    ⟨(some 10), .fieldAddr 1 (.t 1), (some (9, false)), []⟩,
    ⟨(some 11), .load1 (.t 10), (some (9, false)), [10]⟩,
    ⟨(some 12), .bin .gtr .none (.t 11) (.c (.int .i64 2)), (some (9, false)), [11]⟩,
    ⟨(some 13), .pick (.t 9) (.c (.bool true)) (.t 12), none, [12, 9]⟩,
    ⟨(some 14), .mov (.t 13), none, [13]⟩,
    ⟨(some 15), .fieldAddr 5 (.t 1), (some (14, false)), []⟩,
    ⟨(some 16), .load1 (.t 15), (some (14, false)), [15]⟩,
    ⟨(some 17), .bin .lss .none (.t 16) (.c (.int .i64 0)), (some (14, false)), [16]⟩,
    ⟨(some 18), .pick (.t 14) (.c (.bool true)) (.t 17), none, [17, 14]⟩,
    ⟨(some 19), .mov (.t 18), none, [18]⟩,
    ⟨(some 20), .fieldAddr 5 (.t 1), (some (19, false)), []⟩,
    ⟨(some 21), .load1 (.t 20), (some (19, false)), [20]⟩,
    ⟨(some 22), .bin .gtr .none (.t 21) (.c (.int .i64 2)), (some (19, false)), [21]⟩,
    ⟨(some 23), .pick (.t 19) (.c (.bool true)) (.t 22), none, [22, 19]⟩])
  (.cond (.t 23)
   (.seq (.ops [⟨(some 2), .mov (.c (.int .i64 0)), none, [23]⟩,
     ⟨(some 3), .mov (.c (.int .i64 7)), none, []⟩])
   (.ret))
   (.skip)))
  (.seq (.ops [⟨(some 24), .fieldAddr 5 (.t 1), none, [23]⟩,
    ⟨(some 25), .load1 (.t 24), none, [24]⟩,
    ⟨(some 4), .new [.int .i64 0], none, []⟩,
    ⟨none, .store 1 (.t 4) (.t 25), none, [25]⟩])
  (.seq (.ops [⟨(some 26), .mkfunc (.func 26) [] [(.t 4)], none, []⟩,
    ⟨(some 5), .mov (.t 26), none, [26]⟩])
  (.seq (.ops [⟨(some 27), .mov (.t 5), none, []⟩,
    ⟨(some 28), .fieldAddr 4 (.t 1), none, []⟩,
    ⟨(some 29), .load1 (.t 28), none, [28]⟩,
    ⟨(some 30), .call (.t 27) [(.t 29), (.c (.int .i64 4))], none, [29, 27, 30]⟩])
  (.seq (.ops [⟨(some 31), .mov (.t 5), none, []⟩,
    ⟨(some 32), .fieldAddr 3 (.t 1), none, []⟩,
    ⟨(some 33), .load1 (.t 32), none, [32]⟩,
    ⟨(some 34), .call (.t 31) [(.t 33), (.c (.int .i64 8))], none, [33, 31, 34]⟩])
  (.seq (.ops [⟨(some 35), .mov (.t 5), none, []⟩,
    ⟨(some 36), .fieldAddr 2 (.t 1), none, []⟩,
    ⟨(some 37), .load1 (.t 36), none, [36]⟩,
    ⟨(some 38), .call (.t 35) [(.t 37), (.c (.int .i64 16))], none, [37, 35, 38]⟩])
  (.seq (.ops [⟨(some 39), .mov (.t 5), none, [5]⟩,
    ⟨(some 40), .fieldAddr 0 (.t 1), none, []⟩,
    ⟨(some 41), .load1 (.t 40), none, [40]⟩,
    ⟨(some 42), .call (.t 39) [(.t 41), (.c (.int .i64 128))], none, [41, 39, 42]⟩])
  (.seq (.ops [⟨(some 43), .load1 (.t 4), none, [4]⟩,
    ⟨(some 44), .fieldAddr 1 (.t 1), none, [1]⟩,
    ⟨(some 45), .load1 (.t 44), none, [44]⟩,
    ⟨(some 46), .bin .and .none (.t 45) (.c (.int .i64 3)), none, [45]⟩,
    ⟨(some 47), .bin .mul .none (.t 46) (.c (.int .i64 32)), none, [46]⟩,
    ⟨(some 48), .bin .or .none (.t 43) (.t 47), none, [47, 43]⟩,
    ⟨(some 2), .mov (.t 48), none, [48]⟩,
    ⟨(some 3), .mov (.c (.int .i64 0)), none, []⟩])
  (.ret))))))))), 49, [.tmp 2, .tmp 3]⟩
theorem f11_ok : compF Try.prog Try.f11 [⟨0, [], [], [[0], [2], [3]]⟩, ⟨0, [], [], [[], [6], [7], [8], [], [10], [11], [12, 9], [13], [], [15], [16], [17, 14], [18], [], [20], [21], [22, 19]]⟩, ⟨0, [], [], [[23], []]⟩, ⟨0, [], [], [[23], [24], [], [25]]⟩, ⟨0, [], [], [[], [26]]⟩, ⟨0, [], [], [[], [], [28], [29, 27, 30]]⟩, ⟨0, [], [], [[], [], [32], [33, 31, 34]]⟩, ⟨0, [], [], [[], [], [36], [37, 35, 38]]⟩, ⟨0, [], [], [[5], [], [40], [41, 39, 42]]⟩, ⟨0, [], [], [[4], [1], [44], [45], [46], [47, 43], [48], []]⟩] = some f11 := by kernel_rfl

/-! 12: polyglot/snhead.ReadFlag -/
def f12 : AFn := ⟨.seq (.ops [⟨(some 2), .new [.bool false, .int .i64 0, .bool false, .bool false, .bool false, .int .i64 0], none, []⟩,
    ⟨(some 3), .mov (.c (.int .i64 0)), none, [3]⟩])
  (.seq (.seq (.ops [⟨(some 5), .mov (.t 0), none, []⟩,
    ⟨(some 6), .bin .lss .none (.t 5) (.c (.int .i64 0)), none, [5]⟩,
    ⟨(some 7), .mov (.t 6), none, [6]⟩,
    ⟨(some 8), .mov (.t 0), (some (7, false)), []⟩,
    ⟨(some 9), .bin .gtr .none (.t 8) (.c (.int .i64 255)), (some (7, false)), [8]⟩,
    ⟨(some 10), .pick (.t 7) (.c (.bool true)) (.t 9), none, [9, 7]⟩,
    ⟨(some 11), .mov (.t 10), none, [10]⟩,
    ⟨(some 12), .mov (.t 0), (some (11, false)), []⟩,
    ⟨(some 13), .bin .and .none (.t 12) (.c (.int .i64 3)), (some (11, false)), [12]⟩,
    ⟨(some 14), .bin .eql .none (.t 13) (.c (.int .i64 3)), (some (11, false)), [13]⟩,
    ⟨(some 15), .pick (.t 11) (.c (.bool true)) (.t 14), none, [14, 11]⟩])
  (.cond (.t 15)
   (.seq (.ops [⟨(some 16), .build [.bool false, .int .i64 0, .bool false, .bool false, .bool false, .int .i64 0] [], none, [15]⟩,
     ⟨none, .store 6 (.t 2) (.t 16), none, [16]⟩,
     ⟨(some 3), .mov (.c (.int .i64 7)), none, []⟩])
   (.ret))
   (.skip)))
  (.seq (.ops [⟨(some 17), .mov (.t 0), none, [15]⟩,
    ⟨(some 18), .bin .quo .none (.t 17) (.c (.int .i64 32)), none, [17]⟩,
    ⟨(some 19), .bin .and .none (.t 18) (.c (.int .i64 3)), none, [18]⟩,
    ⟨(some 4), .mov (.t 19), none, [19]⟩])
  (.seq (.seq (.ops [⟨(some 20), .mov (.t 4), none, []⟩,
    ⟨(some 21), .bin .eql .none (.t 20) (.c (.int .i64 3)), none, [20]⟩])
  (.cond (.t 21)
   (.ops [⟨(some 4), .mov (.c (.int .i64 (-1))), none, [21]⟩])
   (.skip)))
  (.seq (.ops [⟨(some 22), .mov (.t 0), none, [21]⟩,
    ⟨(some 23), .bin .and .none (.t 22) (.c (.int .i64 128)), none, [22]⟩,
    ⟨(some 24), .bin .neq .none (.t 23) (.c (.int .i64 0)), none, [23]⟩,
    ⟨(some 25), .mov (.t 4), none, [4]⟩,
    ⟨(some 26), .mov (.t 0), none, []⟩,
    ⟨(some 27), .bin .and .none (.t 26) (.c (.int .i64 16)), none, [26]⟩,
    ⟨(some 28), .bin .neq .none (.t 27) (.c (.int .i64 0)), none, [27]⟩,
    ⟨(some 29), .mov (.t 0), none, []⟩,
    ⟨(some 30), .bin .and .none (.t 29) (.c (.int .i64 8)), none, [29]⟩,
    ⟨(some 31), .bin .neq .none (.t 30) (.c (.int .i64 0)), none, [30]⟩,
    ⟨(some 32), .mov (.t 0), none, []⟩,
    ⟨(some 33), .bin .and .none (.t 32) (.c (.int .i64 4)), none, [32]⟩,
    ⟨(some 34), .bin .neq .none (.t 33) (.c (.int .i64 0)), none, [33]⟩,
    ⟨(some 35), .mov (.t 0), none, [0]⟩,
    ⟨(some 36), .bin .and .none (.t 35) (.c (.int .i64 3)), none, [35]⟩,
    ⟨(some 37), .build [.bool false, .int .i64 0, .bool false, .bool false, .bool false, .int .i64 0] [(0, 1, (.t 24)), (1, 1, (.t 25)), (2, 1, (.t 28)), (3, 1, (.t 31)), (4, 1, (.t 34)), (5, 1, (.t 36))], none, [24, 25, 28, 31, 34, 36]⟩,
    ⟨none, .store 6 (.t 2) (.t 37), none, [37]⟩,
    ⟨(some 3), .mov (.c (.int .i64 0)), none, []⟩])
  (.ret))))), 38, [.cellN 2 6, .tmp 3]⟩
theorem f12_ok : compF Try.prog Try.f12 [⟨0, [], [], [[], [3]]⟩, ⟨0, [], [], [[], [5], [6], [], [8], [9, 7], [10], [], [12], [13], [14, 11]]⟩, ⟨0, [], [], [[15], [16], []]⟩, ⟨0, [], [], [[15], [17], [18], [19]]⟩, ⟨0, [], [], [[], [20]]⟩, ⟨0, [], [], [[21]]⟩, ⟨0, [], [], [[21], [22], [23], [4], [], [26], [27], [], [29], [30], [], [32], [33], [0], [35], [24, 25, 28, 31, 34, 36], [37], []]⟩] = some f12 := by kernel_rfl

/-! 13: polyglot/snhead.Uses -/
def f13 : AFn := ⟨.seq (.ops [⟨(some 2), .new [.bool false, .int .i64 0, .bool false, .bool false, .bool false, .int .i64 0], none, []⟩])
  (.seq (.ops [⟨(some 3), .new [.bool false, .int .i64 0, .bool false, .bool false, .bool false, .int .i64 0], none, []⟩])
  (.seq (.seq (.ops [⟨(some 4), .mov (.t 0), none, [0]⟩])
  (.block 0 (.seq (.block 6 (.seq (.block 5 (.seq (.block 4 (.seq (.block 3 (.seq (.block 2 (.seq (.block 1 (.seq (.seq (.seq (.ops [⟨(some 6), .bin .eql .none (.t 4) (.c (.int .i64 4)), none, []⟩,
           ⟨(some 5), .mov (.t 6), none, [6]⟩])
         (.cond (.t 5)
          (.exit 1)
          (.skip)))
         (.seq (.seq (.seq (.ops [⟨(some 8), .bin .eql .none (.t 4) (.c (.int .i64 7)), none, [5]⟩,
           ⟨(some 7), .mov (.t 8), none, [8]⟩])
         (.cond (.t 7)
          (.skip)
          (.ops [⟨(some 9), .bin .eql .none (.t 4) (.c (.int .i64 26)), none, [7]⟩,
            ⟨(some 7), .mov (.t 9), none, [9]⟩])))
         (.cond (.t 7)
          (.exit 2)
          (.skip)))
         (.seq (.seq (.ops [⟨(some 11), .bin .eql .none (.t 4) (.c (.int .i64 19)), none, [7]⟩,
           ⟨(some 10), .mov (.t 11), none, [11]⟩])
         (.cond (.t 10)
          (.exit 3)
          (.skip)))
         (.seq (.seq (.ops [⟨(some 13), .bin .eql .none (.t 4) (.c (.int .i64 12)), none, [10]⟩,
           ⟨(some 12), .mov (.t 13), none, [13]⟩])
         (.cond (.t 12)
          (.exit 4)
          (.skip)))
         (.seq (.seq (.ops [⟨(some 15), .bin .eql .none (.t 4) (.c (.int .i64 18)), none, [12]⟩,
           ⟨(some 14), .mov (.t 15), none, [15]⟩])
         (.cond (.t 14)
          (.exit 5)
          (.skip)))
         (.seq (.ops [⟨(some 17), .bin .eql .none (.t 4) (.c (.int .i64 20)), none, [14, 4]⟩,
           ⟨(some 16), .mov (.t 17), none, [17]⟩])
         (.cond (.t 16)
          (.exit 6)
          (.skip))))))))
         (.exit 0)))
        (.seq (.ops [⟨(some 18), .fieldAddr 3 (.t 3), none, [5]⟩,
          ⟨none, .store 1 (.t 18) (.c (.bool true)), none, [18]⟩,
          ⟨(some 19), .fieldAddr 4 (.t 3), none, []⟩,
          ⟨none, .store 1 (.t 19) (.c (.bool true)), none, [19]⟩])
        (.exit 0))))
       (.ops [⟨(some 20), .fieldAddr 2 (.t 3), none, [7]⟩,
         ⟨none, .store 1 (.t 20) (.c (.bool true)), none, [20]⟩])))
      (.seq (.ops [⟨(some 21), .fieldAddr 1 (.t 3), none, [10]⟩,
        ⟨none, .store 1 (.t 21) (.c (.int .i64 1)), none, [21]⟩])
      (.exit 0))))
     (.ops [⟨(some 22), .fieldAddr 2 (.t 3), none, [12]⟩,
       ⟨none, .store 1 (.t 22) (.c (.bool true)), none, [22]⟩])))
    (.ops [⟨(some 23), .fieldAddr 0 (.t 3), none, [14]⟩,
      ⟨none, .store 1 (.t 23) (.c (.bool true)), none, [23]⟩,
      ⟨(some 24), .fieldAddr 1 (.t 3), none, []⟩,
      ⟨none, .store 1 (.t 24) (.c (.int .i64 1)), none, [24]⟩])))
   (.seq (.ops [⟨(some 25), .fieldAddr 5 (.t 3), none, [16]⟩,
     ⟨none, .store 1 (.t 25) (.c (.int .i64 1)), none, [25]⟩])
   (.exit 0)))))
  (.seq (.ops [⟨(some 26), .loadN 6 (.t 3), none, [16, 3]⟩,
    ⟨none, .store 6 (.t 2) (.t 26), none, [26]⟩])
  (.ret)))), 27, [.cellN 2 6]⟩
theorem f13_ok : compF Try.prog Try.f13 [⟨0, [], [], [[]]⟩, ⟨0, [], [], [[]]⟩, ⟨0, [], [], [[0]]⟩, ⟨0, [], [], [[], [6]]⟩, ⟨0, [], [], [[5], [8]]⟩, ⟨0, [], [], [[7], [9]]⟩, ⟨0, [], [], [[7], [11]]⟩, ⟨0, [], [], [[10], [13]]⟩, ⟨0, [], [], [[12], [15]]⟩, ⟨0, [], [], [[14, 4], [17]]⟩, ⟨0, [], [], [[5], [18], [], [19]]⟩, ⟨0, [], [], [[7], [20]]⟩, ⟨0, [], [], [[10], [21]]⟩, ⟨0, [], [], [[12], [22]]⟩, ⟨0, [], [], [[14], [23], [], [24]]⟩, ⟨0, [], [], [[16], [25]]⟩, ⟨0, [], [], [[16, 3], [26]]⟩] = some f13 := by kernel_rfl

/-! 14: polyglot/snhead.May -/
def f14 : AFn := ⟨.seq (.ops [⟨(some 3), .box (.t 1), none, [1]⟩,
    ⟨(some 4), .mov (.c (.bool false)), none, [4]⟩])
  (.seq (.seq (.ops [⟨(some 9), .loadN 6 (.t 3), none, []⟩,
    ⟨(some 10), .call (.c (.func (.func 11) [] [])) [(.t 9)], none, [9]⟩,
    ⟨(some 8), .mov (.t 10), none, [10]⟩,
    ⟨(some 11), .extract (.t 8) 0, none, []⟩,
    ⟨(some 12), .extract (.t 8) 1, none, [8]⟩,
    ⟨(some 5), .mov (.t 11), none, [11, 5]⟩,
    ⟨(some 6), .mov (.t 12), none, [12]⟩])
  (.seq (.ops [⟨(some 13), .mov (.t 6), none, [6]⟩,
    ⟨(some 14), .bin .neq .none (.t 13) (.c (.int .i64 0)), none, [13]⟩])
  (.cond (.t 14)
   (.seq (.ops [⟨(some 4), .mov (.c (.bool false)), none, [14]⟩])
   (.ret))
   (.skip))))
  (.seq (.seq (.ops [⟨(some 15), .fieldAddr 1 (.t 3), none, [14]⟩,
    ⟨(some 16), .load1 (.t 15), none, [15]⟩,
    ⟨(some 17), .bin .lss .none (.t 16) (.c (.int .i64 0)), none, [16]⟩,
    ⟨(some 18), .mov (.t 17), none, [17]⟩,
    ⟨(some 19), .mov (.t 0), (some (18, true)), []⟩,
    ⟨(some 20), .bin .neq .none (.t 19) (.c (.int .i64 12)), (some (18, true)), [19]⟩,
    ⟨(some 21), .pick (.t 18) (.t 20) (.c (.bool false)), none, [20, 18]⟩])
  (.cond (.t 21)
   (.seq (.ops [⟨(some 4), .mov (.c (.bool false)), none, [21]⟩])
   (.ret))
   (.skip)))
  (.seq (.ops [⟨(some 22), .mov (.t 0), none, [21, 0]⟩,
    ⟨(some 23), .call (.c (.func (.func 13) [] [])) [(.t 22)], none, [22]⟩,
    ⟨(some 7), .new [.bool false, .int .i64 0, .bool false, .bool false, .bool false, .int .i64 0], none, []⟩,
    ⟨none, .store 6 (.t 7) (.t 23), none, [23]⟩])
  (.seq (.seq (.ops [⟨(some 24), .fieldAddr 0 (.t 7), none, []⟩,
    ⟨(some 25), .load1 (.t 24), none, [24]⟩])
  (.cond (.t 25)
   (.ops [⟨(some 26), .fieldAddr 0 (.t 3), none, [25]⟩,
     ⟨none, .store 1 (.t 26) (.c (.bool false)), none, [26]⟩])
   (.skip)))
  (.seq (.seq (.ops [⟨(some 27), .fieldAddr 1 (.t 7), none, [25]⟩,
    ⟨(some 28), .load1 (.t 27), none, [27]⟩,
    ⟨(some 29), .bin .eql .none (.t 28) (.c (.int .i64 1)), none, [28]⟩])
  (.cond (.t 29)
   (.ops [⟨(some 30), .fieldAddr 1 (.t 3), none, [29]⟩,
     ⟨none, .store 1 (.t 30) (.c (.int .i64 0)), none, [30]⟩])
   (.skip)))
  (.seq (.seq (.ops [⟨(some 31), .fieldAddr 2 (.t 7), none, [29]⟩,
    ⟨(some 32), .load1 (.t 31), none, [31]⟩])
  (.cond (.t 32)
   (.ops [⟨(some 33), .fieldAddr 2 (.t 3), none, [32]⟩,
     ⟨none, .store 1 (.t 33) (.c (.bool false)), none, [33]⟩])
   (.skip)))
  (.seq (.seq (.ops [⟨(some 34), .fieldAddr 3 (.t 7), none, [32]⟩,
    ⟨(some 35), .load1 (.t 34), none, [34]⟩])
  (.cond (.t 35)
   (.ops [⟨(some 36), .fieldAddr 3 (.t 3), none, [35]⟩,
     ⟨none, .store 1 (.t 36) (.c (.bool false)), none, [36]⟩])
   (.skip)))
  (.seq (.seq (.ops [⟨(some 37), .fieldAddr 4 (.t 7), none, [35]⟩,
    ⟨(some 38), .load1 (.t 37), none, [37]⟩])
  (.cond (.t 38)
   (.ops [⟨(some 39), .fieldAddr 4 (.t 3), none, [38]⟩,
     ⟨none, .store 1 (.t 39) (.c (.bool false)), none, [39]⟩])
   (.skip)))
  (.seq (.seq (.ops [⟨(some 40), .fieldAddr 5 (.t 7), none, [38, 7]⟩,
    ⟨(some 41), .load1 (.t 40), none, [40]⟩,
    ⟨(some 42), .bin .eql .none (.t 41) (.c (.int .i64 1)), none, [41]⟩])
  (.cond (.t 42)
   (.ops [⟨(some 43), .fieldAddr 5 (.t 3), none, [42]⟩,
     ⟨none, .store 1 (.t 43) (.c (.int .i64 0)), none, [43]⟩])
   (.skip)))
  (.seq (.ops [⟨(some 44), .loadN 6 (.t 3), none, [42, 3]⟩,
    ⟨(some 45), .build [.bool false, .int .i64 0, .bool false, .bool false, .bool false, .int .i64 0] [], none, []⟩,
    ⟨(some 46), .bin .eql (.agg [.bool, .int .i64, .bool, .bool, .bool, .int .i64]) (.t 44) (.t 45), none, [45, 44]⟩,
    ⟨(some 4), .mov (.t 46), none, [46]⟩])
  (.ret))))))))))), 47, [.tmp 4]⟩
theorem f14_ok : compF Try.prog Try.f14 [⟨0, [], [], [[1], [4]]⟩, ⟨0, [], [], [[], [9], [10], [], [8], [11, 5], [12]]⟩, ⟨0, [], [], [[6], [13]]⟩, ⟨0, [], [], [[14]]⟩, ⟨0, [], [], [[14], [15], [16], [17], [], [19], [20, 18]]⟩, ⟨0, [], [], [[21]]⟩, ⟨0, [], [], [[21, 0], [22], [], [23]]⟩, ⟨0, [], [], [[], [24]]⟩, ⟨0, [], [], [[25], [26]]⟩, ⟨0, [], [], [[25], [27], [28]]⟩, ⟨0, [], [], [[29], [30]]⟩, ⟨0, [], [], [[29], [31]]⟩, ⟨0, [], [], [[32], [33]]⟩, ⟨0, [], [], [[32], [34]]⟩, ⟨0, [], [], [[35], [36]]⟩, ⟨0, [], [], [[35], [37]]⟩, ⟨0, [], [], [[38], [39]]⟩, ⟨0, [], [], [[38, 7], [40], [41]]⟩, ⟨0, [], [], [[42], [43]]⟩, ⟨0, [], [], [[42, 3], [], [45, 44], [46]]⟩] = some f14 := by kernel_rfl

/-! 15: polyglot/polyglotref21.Bytes -/
def f15 : AFn := ⟨.seq (.ops [⟨(some 4), .mov (.c (.str [])), none, [4]⟩,
    ⟨(some 5), .mov (.c (.int .i64 0)), none, [5]⟩])
  (.seq (.block 0 (.seq (.ops [⟨(some 7), .mov (.t 0), none, []⟩,
     ⟨(some 8), .call (.c (.func (.func 19) [] [])) [(.t 7)], none, [7]⟩,
     ⟨(some 9), .not (.t 8), none, [8]⟩,
     ⟨(some 6), .mov (.t 9), none, [9]⟩])
   (.cond (.t 6)
    (.seq (.ops [⟨(some 4), .mov (.c (.str [])), none, [6]⟩,
      ⟨(some 5), .mov (.c (.int .i64 8)), none, []⟩])
    (.ret))
    (.seq (.ops [⟨(some 11), .mov (.t 1), none, [6]⟩,
      ⟨(some 12), .bin .lss .none (.t 11) (.c (.int .i64 0)), none, [11]⟩,
      ⟨(some 10), .mov (.t 12), none, [12]⟩])
    (.cond (.t 10)
     (.seq (.ops [⟨(some 4), .mov (.c (.str [])), none, [10]⟩,
       ⟨(some 5), .mov (.c (.int .i64 2)), none, []⟩])
     (.ret))
     (.seq (.ops [⟨(some 14), .mov (.t 1), none, [10]⟩,
       ⟨(some 15), .bin .leq .none (.t 14) (.c (.int .i64 253)), none, [14]⟩,
       ⟨(some 13), .mov (.t 15), none, [15]⟩])
     (.cond (.t 13)
      (.seq (.ops [⟨(some 16), .mov (.t 1), none, [13, 1]⟩,
        ⟨(some 17), .bin .add .none (.t 16) (.c (.int .i64 2)), none, [16]⟩,
        ⟨(some 18), .conv .u8 (.t 17), none, [17]⟩,
        ⟨(some 19), .mov (.t 0), none, [0]⟩,
        ⟨(some 20), .conv .u8 (.t 19), none, [19]⟩,
        ⟨(some 21), .buildSlice 1 2 [.junk, .junk] [(0, 1, (.t 18)), (1, 1, (.t 20))], none, [18, 20]⟩,
        ⟨(some 22), .b2s (.t 21), none, [21]⟩,
        ⟨(some 4), .mov (.t 22), none, [22]⟩,
        ⟨(some 5), .mov (.c (.int .i64 0)), none, []⟩])
      (.ret))
      (.seq (.ops [⟨(some 24), .mov (.t 1), none, [13]⟩,
        ⟨(some 25), .bin .gtr .none (.t 24) (.c (.int .i64 65531)), none, [24]⟩,
        ⟨(some 23), .mov (.t 25), none, [25]⟩])
      (.cond (.t 23)
       (.seq (.ops [⟨(some 4), .mov (.c (.str [])), none, [23]⟩,
         ⟨(some 5), .mov (.c (.int .i64 4)), none, []⟩])
       (.ret))
       (.skip))))))))))
  (.seq (.draw [⟨(some 26), .mov (.t 1), none, [23, 1]⟩,
    ⟨(some 27), .bin .add .none (.t 26) (.c (.int .i64 4)), none, [26]⟩,
    ⟨(some 28), .conv .u64 (.t 27), none, [27]⟩,
    ⟨(some 29), .call (.c (.func (.func 27) [] [])) [(.t 28), (.c (.int .i64 2))], none, [28]⟩,
    ⟨(some 30), .bin .add .none (.c (.str [1])) (.t 29), none, [29]⟩,
    ⟨(some 31), .mov (.t 0), none, [0]⟩,
    ⟨(some 32), .conv .u8 (.t 31), none, [31]⟩,
    ⟨(some 33), .buildSlice 1 1 [.junk] [(0, 1, (.t 32))], none, [32]⟩,
    ⟨(some 34), .b2s (.t 33), none, [33]⟩,
    ⟨(some 35), .bin .add .none (.t 30) (.t 34), none, [34, 30]⟩,
    ⟨(some 4), .mov (.t 35), none, [35]⟩,
    ⟨(some 5), .mov (.c (.int .i64 0)), none, []⟩] [0, 1, 3, 7, 15, 0, 32, 96, 224, 511, 1023, 2047] 9)
  (.ret))), 36, [.tmp 4, .tmp 5]⟩
theorem f15_ok : compF Try.prog Try.f15 [⟨0, [], [], [[4], [5]]⟩, ⟨0, [], [], [[], [7], [8], [9]]⟩, ⟨0, [], [], [[6], []]⟩, ⟨0, [], [], [[6], [11], [12]]⟩, ⟨0, [], [], [[10], []]⟩, ⟨0, [], [], [[10], [14], [15]]⟩, ⟨0, [], [], [[13, 1], [16], [17], [0], [19], [18, 20], [21], [22], []]⟩, ⟨0, [], [], [[13], [24], [25]]⟩, ⟨0, [], [], [[23], []]⟩, ⟨0, [], [], [[23, 1], [26], [27], [28], [29], [0], [31], [32], [33], [34, 30], [35], []]⟩] = some f15 := by kernel_rfl

/-! 16: polyglot/polyglotref21.Read -/
def f16 : AFn := ⟨.seq (.ops [⟨(some 2), .mov (.c (.int .i64 0)), none, [2]⟩,
    ⟨(some 3), .mov (.c (.int .i64 0)), none, [3]⟩,
    ⟨(some 4), .mov (.c (.int .i64 0)), none, [4]⟩,
    ⟨(some 5), .mov (.c (.int .i64 0)), none, [5]⟩])
  (.seq (.seq (.ops [⟨(some 9), .mov (.t 0), none, []⟩,
    ⟨(some 10), .bin .eql .none (.t 9) (.c (.str [])), none, [9]⟩])
  (.cond (.t 10)
   (.seq (.ops [⟨(some 2), .mov (.c (.int .i64 0)), none, [10]⟩,
     ⟨(some 3), .mov (.c (.int .i64 0)), none, []⟩,
     ⟨(some 4), .mov (.c (.int .i64 0)), none, []⟩,
     ⟨(some 5), .mov (.c (.int .i64 3)), none, []⟩])
   (.ret))
   (.skip)))
  (.seq (.ops [⟨(some 11), .mov (.t 0), none, [10]⟩,
    ⟨(some 12), .indexStr (.t 11) (.c (.int .i64 0)), none, [11]⟩,
    ⟨(some 13), .conv .i64 (.t 12), none, [12]⟩,
    ⟨(some 6), .mov (.t 13), none, [13]⟩,
    ⟨(some 7), .mov (.c (.int .i64 2)), none, []⟩])
  (.seq (.seq (.ops [⟨(some 14), .mov (.t 6), none, []⟩,
    ⟨(some 15), .bin .eql .none (.t 14) (.c (.int .i64 1)), none, [14]⟩])
  (.cond (.t 15)
   (.ops [⟨(some 7), .mov (.c (.int .i64 4)), none, [15]⟩])
   (.skip)))
  (.seq (.seq (.ops [⟨(some 16), .mov (.t 0), none, [15]⟩,
    ⟨(some 17), .lenS (.t 16), none, [16]⟩,
    ⟨(some 18), .mov (.t 7), none, []⟩,
    ⟨(some 19), .bin .lss .none (.t 17) (.t 18), none, [18, 17]⟩])
  (.cond (.t 19)
   (.seq (.ops [⟨(some 2), .mov (.c (.int .i64 0)), none, [19]⟩,
     ⟨(some 3), .mov (.c (.int .i64 0)), none, []⟩,
     ⟨(some 4), .mov (.c (.int .i64 0)), none, []⟩,
     ⟨(some 5), .mov (.c (.int .i64 3)), none, []⟩])
   (.ret))
   (.skip)))
  (.seq (.seq (.ops [⟨(some 20), .mov (.t 7), none, [19]⟩,
    ⟨(some 21), .bin .eql .none (.t 20) (.c (.int .i64 4)), none, [20]⟩])
  (.cond (.t 21)
   (.ops [⟨(some 22), .mov (.t 0), none, [21]⟩,
     ⟨(some 23), .substr (.t 22) (some (.c (.int .i64 1))) (some (.c (.int .i64 3))), none, [22]⟩,
     ⟨(some 24), .call (.c (.func (.func 28) [] [])) [(.t 23)], none, [23]⟩,
     ⟨(some 25), .conv .i64 (.t 24), none, [24]⟩,
     ⟨(some 6), .mov (.t 25), none, [25]⟩])
   (.skip)))
  (.seq (.seq (.ops [⟨(some 26), .mov (.t 6), none, [21]⟩,
    ⟨(some 27), .mov (.t 7), none, []⟩,
    ⟨(some 28), .bin .lss .none (.t 26) (.t 27), none, [27, 26]⟩,
    ⟨(some 29), .mov (.t 28), none, [28]⟩,
    ⟨(some 30), .mov (.t 7), (some (29, false)), []⟩,
    ⟨(some 31), .bin .eql .none (.t 30) (.c (.int .i64 4)), (some (29, false)), [30]⟩,
    ⟨(some 32), .mov (.t 31), (some (29, false)), [31]⟩,
    ⟨(some 33), .mov (.t 6), (some (32, true)), []⟩,
    ⟨(some 34), .bin .lss .none (.t 33) (.c (.int .i64 258)), (some (32, true)), [33]⟩,
    ⟨(some 35), .pick (.t 32) (.t 34) (.c (.bool false)), (some (29, false)), [34, 32]⟩,
    ⟨(some 36), .pick (.t 29) (.c (.bool true)) (.t 35), none, [35, 29]⟩])
  (.cond (.t 36)
   (.seq (.ops [⟨(some 2), .mov (.c (.int .i64 0)), none, [36]⟩,
     ⟨(some 3), .mov (.c (.int .i64 0)), none, []⟩,
     ⟨(some 4), .mov (.c (.int .i64 0)), none, []⟩,
     ⟨(some 5), .mov (.c (.int .i64 5)), none, []⟩])
   (.ret))
   (.skip)))
  (.seq (.ops [⟨(some 37), .mov (.t 0), none, [36, 0]⟩,
    ⟨(some 38), .mov (.t 7), none, []⟩,
    ⟨(some 39), .bin .sub .none (.t 38) (.c (.int .i64 1)), none, [38]⟩,
    ⟨(some 40), .indexStr (.t 37) (.t 39), none, [39, 37]⟩,
    ⟨(some 41), .conv .i64 (.t 40), none, [40]⟩,
    ⟨(some 8), .mov (.t 41), none, [41]⟩])
  (.seq (.seq (.ops [⟨(some 42), .mov (.t 8), none, []⟩,
    ⟨(some 43), .call (.c (.func (.func 19) [] [])) [(.t 42)], none, [42]⟩,
    ⟨(some 44), .not (.t 43), none, [43]⟩])
  (.cond (.t 44)
   (.seq (.ops [⟨(some 2), .mov (.c (.int .i64 0)), none, [44]⟩,
     ⟨(some 3), .mov (.c (.int .i64 0)), none, []⟩,
     ⟨(some 4), .mov (.c (.int .i64 0)), none, []⟩,
     ⟨(some 5), .mov (.c (.int .i64 8)), none, []⟩])
   (.ret))
   (.skip)))
  (.seq (.ops [⟨(some 45), .mov (.t 8), none, [44, 8]⟩,
    ⟨(some 46), .mov (.t 7), none, [7]⟩,
    ⟨(some 47), .mov (.t 6), none, [6]⟩,
    ⟨(some 2), .mov (.t 45), none, [45]⟩,
    ⟨(some 3), .mov (.t 46), none, [46]⟩,
    ⟨(some 4), .mov (.t 47), none, [47]⟩,
    ⟨(some 5), .mov (.c (.int .i64 0)), none, []⟩])
  (.ret)))))))))), 48, [.tmp 2, .tmp 3, .tmp 4, .tmp 5]⟩
theorem f16_ok : compF Try.prog Try.f16 [⟨0, [], [], [[2], [3], [4], [5]]⟩, ⟨0, [], [], [[], [9]]⟩, ⟨0, [], [], [[10], [], [], []]⟩, ⟨0, [], [], [[10], [11], [12], [13], []]⟩, ⟨0, [], [], [[], [14]]⟩, ⟨0, [], [], [[15]]⟩, ⟨0, [], [], [[15], [16], [], [18, 17]]⟩, ⟨0, [], [], [[19], [], [], []]⟩, ⟨0, [], [], [[19], [20]]⟩, ⟨0, [], [], [[21], [22], [23], [24], [25]]⟩, ⟨0, [], [], [[21], [], [27, 26], [28], [], [30], [31], [], [33], [34, 32], [35, 29]]⟩, ⟨0, [], [], [[36], [], [], []]⟩, ⟨0, [], [], [[36, 0], [], [38], [39, 37], [40], [41]]⟩, ⟨0, [], [], [[], [42], [43]]⟩, ⟨0, [], [], [[44], [], [], []]⟩, ⟨0, [], [], [[44, 8], [7], [6], [45], [46], [47], []]⟩] = some f16 := by kernel_rfl

/-! 17: polyglot/polyglotref21.Flag -/
def f17 : AFn := ⟨.seq (.ops [⟨(some 1), .box (.t 0), none, [0]⟩,
    ⟨(some 2), .mov (.c (.int .i64 0)), none, [2]⟩,
    ⟨(some 3), .mov (.c (.int .i64 0)), none, [3]⟩])
  (.seq (.seq (.ops [⟨(some 5), .fieldAddr 1 (.t 1), none, []⟩,
    ⟨(some 6), .load1 (.t 5), none, [5]⟩,
    ⟨(some 7), .bin .lss .none (.t 6) (.c (.int .i64 (-1))), none, [6]⟩,
    ⟨(some 8), .mov (.t 7), none, [7]⟩,
    ⟨(some 9), .fieldAddr 1 (.t 1), (some (8, false)), []⟩,
    ⟨(some 10), .load1 (.t 9), (some (8, false)), [9]⟩,
    ⟨(some 11), .bin .gtr .none (.t 10) (.c (.int .i64 2)), (some (8, false)), [10]⟩,
    ⟨(some 12), .pick (.t 8) (.c (.bool true)) (.t 11), none, [11, 8]⟩,
    ⟨(some 13), .mov (.t 12), none, [12]⟩,
    ⟨(some 14), .fieldAddr 5 (.t 1), (some (13, false)), []⟩,
    ⟨(some 15), .load1 (.t 14), (some (13, false)), [14]⟩,
    ⟨(some 16), .bin .lss .none (.t 15) (.c (.int .i64 0)), (some (13, false)), [15]⟩,
    ⟨(some 17), .pick (.t 13) (.c (.bool true)) (.t 16), none, [16, 13]⟩,
    ⟨(some 18), .mov (.t 17), none, [17]⟩,
    ⟨(some 19), .fieldAddr 5 (.t 1), (some (18, false)), []⟩,
    ⟨(some 20), .load1 (.t 19), (some (18, false)), [19]⟩,
    ⟨(some 21), .bin .gtr .none (.t 20) (.c (.int .i64 2)), (some (18, false)), [20]⟩,
    ⟨(some 22), .pick (.t 18) (.c (.bool true)) (.t 21), none, [21, 18]⟩])
  (.cond (.t 22)
   (.seq (.ops [⟨(some 2), .mov (.c (.int .i64 0)), none, [22]⟩,
     ⟨(some 3), .mov (.c (.int .i64 7)), none, []⟩])
   (.ret))
   (.skip)))
  (.seq (.ops [⟨(some 23), .fieldAddr 1 (.t 1), none, [22]⟩,
    ⟨(some 24), .load1 (.t 23), none, [23]⟩,
    ⟨(some 4), .mov (.t 24), none, [24]⟩])
  (.seq (.seq (.ops [⟨(some 25), .mov (.t 4), none, []⟩,
    ⟨(some 26), .bin .lss .none (.t 25) (.c (.int .i64 0)), none, [25]⟩])
  (.cond (.t 26)
   (.ops [⟨(some 4), .mov (.c (.int .i64 3)), none, [26]⟩])
   (.skip)))
  (.seq (.quiet [⟨(some 27), .fieldAddr 0 (.t 1), none, [26]⟩,
    ⟨(some 28), .load1 (.t 27), none, [27]⟩,
    ⟨(some 29), .call (.c (.func (.func 29) [] [])) [(.t 28), (.c (.int .i64 128))], none, [28]⟩,
    ⟨(some 30), .mov (.t 4), none, [4]⟩,
    ⟨(some 31), .bin .mul .none (.c (.int .i64 32)) (.t 30), none, [30]⟩,
    ⟨(some 32), .bin .add .none (.t 29) (.t 31), none, [31, 29]⟩,
    ⟨(some 33), .fieldAddr 2 (.t 1), none, []⟩,
    ⟨(some 34), .load1 (.t 33), none, [33]⟩,
    ⟨(some 35), .call (.c (.func (.func 29) [] [])) [(.t 34), (.c (.int .i64 16))], none, [34]⟩,
    ⟨(some 36), .bin .add .none (.t 32) (.t 35), none, [35, 32]⟩,
    ⟨(some 37), .fieldAddr 3 (.t 1), none, []⟩,
    ⟨(some 38), .load1 (.t 37), none, [37]⟩,
    ⟨(some 39), .call (.c (.func (.func 29) [] [])) [(.t 38), (.c (.int .i64 8))], none, [38]⟩,
    ⟨(some 40), .bin .add .none (.t 36) (.t 39), none, [39, 36]⟩,
    ⟨(some 41), .fieldAddr 4 (.t 1), none, []⟩,
    ⟨(some 42), .load1 (.t 41), none, [41]⟩,
    ⟨(some 43), .call (.c (.func (.func 29) [] [])) [(.t 42), (.c (.int .i64 4))], none, [42]⟩,
    ⟨(some 44), .bin .add .none (.t 40) (.t 43), none, [43, 40]⟩,
    ⟨(some 45), .fieldAddr 5 (.t 1), none, [1]⟩,
    ⟨(some 46), .load1 (.t 45), none, [45]⟩,
    ⟨(some 47), .bin .add .none (.t 44) (.t 46), none, [46, 44]⟩,
    ⟨(some 2), .mov (.t 47), none, [47]⟩,
    ⟨(some 3), .mov (.c (.int .i64 0)), none, []⟩])
  (.ret))))), 48, [.tmp 2, .tmp 3]⟩
theorem f17_ok : compF Try.prog Try.f17 [⟨0, [], [], [[0], [2], [3]]⟩, ⟨0, [], [], [[], [5], [6], [7], [], [9], [10], [11, 8], [12], [], [14], [15], [16, 13], [17], [], [19], [20], [21, 18]]⟩, ⟨0, [], [], [[22], []]⟩, ⟨0, [], [], [[22], [23], [24]]⟩, ⟨0, [], [], [[], [25]]⟩, ⟨0, [], [], [[26]]⟩, ⟨0, [], [], [[26], [27], [28], [4], [30], [31, 29], [], [33], [34], [35, 32], [], [37], [38], [39, 36], [], [41], [42], [43, 40], [1], [45], [46, 44], [47], []]⟩] = some f17 := by kernel_rfl

/-! 18: polyglot/polyglotref21.ReadFlag -/
def f18 : AFn := ⟨.seq (.ops [⟨(some 2), .new [.bool false, .int .i64 0, .bool false, .bool false, .bool false, .int .i64 0], none, []⟩,
    ⟨(some 3), .mov (.c (.int .i64 0)), none, [3]⟩])
  (.seq (.seq (.ops [⟨(some 5), .mov (.t 0), none, []⟩,
    ⟨(some 6), .bin .lss .none (.t 5) (.c (.int .i64 0)), none, [5]⟩,
    ⟨(some 7), .mov (.t 6), none, [6]⟩,
    ⟨(some 8), .mov (.t 0), (some (7, false)), []⟩,
    ⟨(some 9), .bin .gtr .none (.t 8) (.c (.int .i64 255)), (some (7, false)), [8]⟩,
    ⟨(some 10), .pick (.t 7) (.c (.bool true)) (.t 9), none, [9, 7]⟩,
    ⟨(some 11), .mov (.t 10), none, [10]⟩,
    ⟨(some 12), .mov (.t 0), (some (11, false)), []⟩,
    ⟨(some 13), .bin .rem .none (.t 12) (.c (.int .i64 4)), (some (11, false)), [12]⟩,
    ⟨(some 14), .bin .eql .none (.t 13) (.c (.int .i64 3)), (some (11, false)), [13]⟩,
    ⟨(some 15), .pick (.t 11) (.c (.bool true)) (.t 14), none, [14, 11]⟩])
  (.cond (.t 15)
   (.seq (.ops [⟨(some 16), .build [.bool false, .int .i64 0, .bool false, .bool false, .bool false, .int .i64 0] [], none, [15]⟩,
     ⟨none, .store 6 (.t 2) (.t 16), none, [16]⟩,
     ⟨(some 3), .mov (.c (.int .i64 7)), none, []⟩])
   (.ret))
   (.skip)))
  (.seq (.ops [⟨(some 17), .mov (.t 0), none, [15]⟩,
    ⟨(some 18), .bin .quo .none (.t 17) (.c (.int .i64 32)), none, [17]⟩,
    ⟨(some 19), .bin .rem .none (.t 18) (.c (.int .i64 4)), none, [18]⟩,
    ⟨(some 4), .mov (.t 19), none, [19]⟩])
  (.seq (.seq (.ops [⟨(some 20), .mov (.t 4), none, []⟩,
    ⟨(some 21), .bin .eql .none (.t 20) (.c (.int .i64 3)), none, [20]⟩])
  (.cond (.t 21)
   (.ops [⟨(some 4), .mov (.c (.int .i64 (-1))), none, [21]⟩])
   (.skip)))
  (.seq (.ops [⟨(some 22), .mov (.t 0), none, [21]⟩,
    ⟨(some 23), .bin .geq .none (.t 22) (.c (.int .i64 128)), none, [22]⟩,
    ⟨(some 24), .mov (.t 4), none, [4]⟩,
    ⟨(some 25), .mov (.t 0), none, []⟩,
    ⟨(some 26), .bin .quo .none (.t 25) (.c (.int .i64 16)), none, [25]⟩,
    ⟨(some 27), .bin .rem .none (.t 26) (.c (.int .i64 2)), none, [26]⟩,
    ⟨(some 28), .bin .eql .none (.t 27) (.c (.int .i64 1)), none, [27]⟩,
    ⟨(some 29), .mov (.t 0), none, []⟩,
    ⟨(some 30), .bin .quo .none (.t 29) (.c (.int .i64 8)), none, [29]⟩,
    ⟨(some 31), .bin .rem .none (.t 30) (.c (.int .i64 2)), none, [30]⟩,
    ⟨(some 32), .bin .eql .none (.t 31) (.c (.int .i64 1)), none, [31]⟩,
    ⟨(some 33), .mov (.t 0), none, []⟩,
    ⟨(some 34), .bin .quo .none (.t 33) (.c (.int .i64 4)), none, [33]⟩,
    ⟨(some 35), .bin .rem .none (.t 34) (.c (.int .i64 2)), none, [34]⟩,
    ⟨(some 36), .bin .eql .none (.t 35) (.c (.int .i64 1)), none, [35]⟩,
    ⟨(some 37), .mov (.t 0), none, [0]⟩,
    ⟨(some 38), .bin .rem .none (.t 37) (.c (.int .i64 4)), none, [37]⟩,
    ⟨(some 39), .build [.bool false, .int .i64 0, .bool false, .bool false, .bool false, .int .i64 0] [(0, 1, (.t 23)), (1, 1, (.t 24)), (2, 1, (.t 28)), (3, 1, (.t 32)), (4, 1, (.t 36)), (5, 1, (.t 38))], none, [23, 24, 28, 32, 36, 38]⟩,
    ⟨none, .store 6 (.t 2) (.t 39), none, [39]⟩,
    ⟨(some 3), .mov (.c (.int .i64 0)), none, []⟩])
  (.ret))))), 40, [.cellN 2 6, .tmp 3]⟩
theorem f18_ok : compF Try.prog Try.f18 [⟨0, [], [], [[], [3]]⟩, ⟨0, [], [], [[], [5], [6], [], [8], [9, 7], [10], [], [12], [13], [14, 11]]⟩, ⟨0, [], [], [[15], [16], []]⟩, ⟨0, [], [], [[15], [17], [18], [19]]⟩, ⟨0, [], [], [[], [20]]⟩, ⟨0, [], [], [[21]]⟩, ⟨0, [], [], [[21], [22], [4], [], [25], [26], [27], [], [29], [30], [31], [], [33], [34], [35], [0], [37], [23, 24, 28, 32, 36, 38], [39], []]⟩] = some f18 := by kernel_rfl

/-! 19: polyglot/polyglotref21.Known -/
def f19 : AFn := ⟨.seq (.ops [⟨(some 2), .mov (.c (.bool false)), none, [2]⟩])
  (.seq (.seq (.ops [⟨(some 3), .mov (.t 0), none, []⟩])
  (.block 0 (.seq (.seq (.ops [⟨(some 5), .bin .eql .none (.t 3) (.c (.int .i64 3)), none, []⟩,
     ⟨(some 4), .mov (.t 5), none, [5]⟩])
   (.cond (.t 4)
    (.skip)
    (.seq (.ops [⟨(some 6), .bin .eql .none (.t 3) (.c (.int .i64 17)), none, [4]⟩,
      ⟨(some 4), .mov (.t 6), none, [6]⟩])
    (.cond (.t 4)
     (.skip)
     (.ops [⟨(some 7), .bin .eql .none (.t 3) (.c (.int .i64 25)), none, [4, 3]⟩,
       ⟨(some 4), .mov (.t 7), none, [7]⟩])))))
   (.cond (.t 4)
    (.seq (.ops [⟨(some 2), .mov (.c (.bool false)), none, [4]⟩])
    (.ret))
    (.skip)))))
  (.seq (.ops [⟨(some 8), .mov (.t 0), none, [4]⟩,
    ⟨(some 9), .bin .geq .none (.t 8) (.c (.int .i64 0)), none, [8]⟩,
    ⟨(some 10), .mov (.t 9), none, [9]⟩,
    ⟨(some 11), .mov (.t 0), (some (10, true)), []⟩,
    ⟨(some 12), .bin .leq .none (.t 11) (.c (.int .i64 29)), (some (10, true)), [11]⟩,
    ⟨(some 13), .pick (.t 10) (.t 12) (.c (.bool false)), none, [12, 10]⟩,
    ⟨(some 14), .mov (.t 13), none, [13]⟩,
    ⟨(some 15), .mov (.t 0), (some (14, false)), [0]⟩,
    ⟨(some 16), .bin .eql .none (.t 15) (.c (.int .i64 254)), (some (14, false)), [15]⟩,
    ⟨(some 17), .pick (.t 14) (.c (.bool true)) (.t 16), none, [16, 14]⟩,
    ⟨(some 2), .mov (.t 17), none, [17]⟩])
  (.ret))), 18, [.tmp 2]⟩
theorem f19_ok : compF Try.prog Try.f19 [⟨0, [], [], [[2]]⟩, ⟨0, [], [], [[]]⟩, ⟨0, [], [], [[], [5]]⟩, ⟨0, [], [], [[4], [6]]⟩, ⟨0, [], [], [[4, 3], [7]]⟩, ⟨0, [], [], [[4]]⟩, ⟨0, [], [], [[4], [8], [9], [], [11], [12, 10], [13], [0], [15], [16, 14], [17]]⟩] = some f19 := by kernel_rfl

/-! 20: polyglot/polyglotref21.Uses -/
def f20 : AFn := ⟨.seq (.ops [⟨(some 2), .new [.bool false, .int .i64 0, .bool false, .bool false, .bool false, .int .i64 0], none, []⟩])
  (.seq (.seq (.ops [⟨(some 3), .mov (.t 0), none, [0]⟩])
  (.block 0 (.seq (.ops [⟨(some 5), .bin .eql .none (.t 3) (.c (.int .i64 4)), none, []⟩,
     ⟨(some 4), .mov (.t 5), none, [5]⟩])
   (.cond (.t 4)
    (.seq (.ops [⟨(some 6), .build [.bool false, .int .i64 0, .bool false, .bool false, .bool false, .int .i64 0] [(3, 1, (.c (.bool true))), (4, 1, (.c (.bool true)))], none, [4]⟩,
      ⟨none, .store 6 (.t 2) (.t 6), none, [6]⟩])
    (.ret))
    (.seq (.seq (.ops [⟨(some 8), .bin .eql .none (.t 3) (.c (.int .i64 7)), none, [4]⟩,
      ⟨(some 7), .mov (.t 8), none, [8]⟩])
    (.cond (.t 7)
     (.skip)
     (.ops [⟨(some 9), .bin .eql .none (.t 3) (.c (.int .i64 26)), none, [7]⟩,
       ⟨(some 7), .mov (.t 9), none, [9]⟩])))
    (.cond (.t 7)
     (.seq (.ops [⟨(some 10), .build [.bool false, .int .i64 0, .bool false, .bool false, .bool false, .int .i64 0] [(1, 1, (.c (.int .i64 1))), (2, 1, (.c (.bool true)))], none, [7]⟩,
       ⟨none, .store 6 (.t 2) (.t 10), none, [10]⟩])
     (.ret))
     (.seq (.ops [⟨(some 12), .bin .eql .none (.t 3) (.c (.int .i64 12)), none, [7]⟩,
       ⟨(some 11), .mov (.t 12), none, [12]⟩])
     (.cond (.t 11)
      (.seq (.ops [⟨(some 13), .build [.bool false, .int .i64 0, .bool false, .bool false, .bool false, .int .i64 0] [(0, 1, (.c (.bool true))), (1, 1, (.c (.int .i64 1))), (2, 1, (.c (.bool true))), (5, 1, (.c (.int .i64 1)))], none, [11]⟩,
        ⟨none, .store 6 (.t 2) (.t 13), none, [13]⟩])
      (.ret))
      (.seq (.ops [⟨(some 15), .bin .eql .none (.t 3) (.c (.int .i64 18)), none, [11]⟩,
        ⟨(some 14), .mov (.t 15), none, [15]⟩])
      (.cond (.t 14)
       (.seq (.ops [⟨(some 16), .build [.bool false, .int .i64 0, .bool false, .bool false, .bool false, .int .i64 0] [(0, 1, (.c (.bool true))), (1, 1, (.c (.int .i64 1))), (5, 1, (.c (.int .i64 1)))], none, [14]⟩,
         ⟨none, .store 6 (.t 2) (.t 16), none, [16]⟩])
       (.ret))
       (.seq (.ops [⟨(some 18), .bin .eql .none (.t 3) (.c (.int .i64 20)), none, [14]⟩,
         ⟨(some 17), .mov (.t 18), none, [18]⟩])
       (.cond (.t 17)
        (.seq (.ops [⟨(some 19), .build [.bool false, .int .i64 0, .bool false, .bool false, .bool false, .int .i64 0] [(5, 1, (.c (.int .i64 1)))], none, [17]⟩,
          ⟨none, .store 6 (.t 2) (.t 19), none, [19]⟩])
        (.ret))
        (.seq (.ops [⟨(some 21), .bin .eql .none (.t 3) (.c (.int .i64 19)), none, [17, 3]⟩,
          ⟨(some 20), .mov (.t 21), none, [21]⟩])
        (.cond (.t 20)
         (.seq (.ops [⟨(some 22), .build [.bool false, .int .i64 0, .bool false, .bool false, .bool false, .int .i64 0] [(1, 1, (.c (.int .i64 1)))], none, [20]⟩,
           ⟨none, .store 6 (.t 2) (.t 22), none, [22]⟩])
         (.ret))
         (.skip)))))))))))))))
  (.seq (.ops [⟨(some 23), .build [.bool false, .int .i64 0, .bool false, .bool false, .bool false, .int .i64 0] [], none, [20]⟩,
    ⟨none, .store 6 (.t 2) (.t 23), none, [23]⟩])
  (.ret))), 24, [.cellN 2 6]⟩
theorem f20_ok : compF Try.prog Try.f20 [⟨0, [], [], [[]]⟩, ⟨0, [], [], [[0]]⟩, ⟨0, [], [], [[], [5]]⟩, ⟨0, [], [], [[4], [6]]⟩, ⟨0, [], [], [[4], [8]]⟩, ⟨0, [], [], [[7], [9]]⟩, ⟨0, [], [], [[7], [10]]⟩, ⟨0, [], [], [[7], [12]]⟩, ⟨0, [], [], [[11], [13]]⟩, ⟨0, [], [], [[11], [15]]⟩, ⟨0, [], [], [[14], [16]]⟩, ⟨0, [], [], [[14], [18]]⟩, ⟨0, [], [], [[17], [19]]⟩, ⟨0, [], [], [[17, 3], [21]]⟩, ⟨0, [], [], [[20], [22]]⟩, ⟨0, [], [], [[20], [23]]⟩] = some f20 := by kernel_rfl

/-! 21: polyglot/polyglotref21.May -/
def f21 : AFn := ⟨.seq (.ops [⟨(some 3), .box (.t 1), none, [1]⟩,
    ⟨(some 4), .mov (.c (.bool false)), none, [4]⟩])
  (.seq (.ops [⟨(some 8), .mov (.t 0), none, []⟩,
    ⟨(some 9), .call (.c (.func (.func 20) [] [])) [(.t 8)], none, [8]⟩,
    ⟨(some 5), .new [.bool false, .int .i64 0, .bool false, .bool false, .bool false, .int .i64 0], none, []⟩,
    ⟨none, .store 6 (.t 5) (.t 9), none, [9]⟩])
  (.seq (.ops [⟨(some 11), .loadN 6 (.t 3), none, []⟩,
    ⟨(some 12), .call (.c (.func (.func 17) [] [])) [(.t 11)], none, [11]⟩,
    ⟨(some 10), .mov (.t 12), none, [12]⟩,
    ⟨(some 13), .extract (.t 10) 0, none, []⟩,
    ⟨(some 14), .extract (.t 10) 1, none, [10]⟩,
    ⟨(some 6), .mov (.t 13), none, [13, 6]⟩,
    ⟨(some 7), .mov (.t 14), none, [14]⟩])
  (.seq (.ops [⟨(some 15), .mov (.t 7), none, [7]⟩,
    ⟨(some 16), .bin .eql .none (.t 15) (.c (.int .i64 0)), none, [15]⟩,
    ⟨(some 17), .mov (.t 16), none, [16]⟩,
    ⟨(some 18), .fieldAddr 0 (.t 5), (some (17, true)), []⟩,
    ⟨(some 19), .load1 (.t 18), (some (17, true)), [18]⟩,
    ⟨(some 20), .mov (.t 19), (some (17, true)), [19]⟩,
    ⟨(some 21), .fieldAddr 0 (.t 3), (some (20, false)), []⟩,
    ⟨(some 22), .load1 (.t 21), (some (20, false)), [21]⟩,
    ⟨(some 23), .not (.t 22), (some (20, false)), [22]⟩,
    ⟨(some 24), .pick (.t 20) (.c (.bool true)) (.t 23), (some (17, true)), [23, 20]⟩,
    ⟨(some 25), .pick (.t 17) (.t 24) (.c (.bool false)), none, [24, 17]⟩,
    ⟨(some 26), .mov (.t 25), none, [25]⟩,
    ⟨(some 27), .fieldAddr 1 (.t 5), (some (26, true)), []⟩,
    ⟨(some 28), .load1 (.t 27), (some (26, true)), [27]⟩,
    ⟨(some 29), .bin .eql .none (.t 28) (.c (.int .i64 1)), (some (26, true)), [28]⟩,
    ⟨(some 30), .mov (.t 29), (some (26, true)), [29]⟩,
    ⟨(some 31), .fieldAddr 1 (.t 3), (some (30, false)), []⟩,
    ⟨(some 32), .load1 (.t 31), (some (30, false)), [31]⟩,
    ⟨(some 33), .bin .eql .none (.t 32) (.c (.int .i64 0)), (some (30, false)), [32]⟩,
    ⟨(some 34), .pick (.t 30) (.c (.bool true)) (.t 33), (some (26, true)), [33, 30]⟩,
    ⟨(some 35), .pick (.t 26) (.t 34) (.c (.bool false)), none, [34, 26]⟩,
    ⟨(some 36), .mov (.t 35), none, [35]⟩,
    ⟨(some 37), .fieldAddr 2 (.t 5), (some (36, true)), []⟩,
    ⟨(some 38), .load1 (.t 37), (some (36, true)), [37]⟩,
    ⟨(some 39), .mov (.t 38), (some (36, true)), [38]⟩,
    ⟨(some 40), .fieldAddr 2 (.t 3), (some (39, false)), []⟩,
    ⟨(some 41), .load1 (.t 40), (some (39, false)), [40]⟩,
    ⟨(some 42), .not (.t 41), (some (39, false)), [41]⟩,
    ⟨(some 43), .pick (.t 39) (.c (.bool true)) (.t 42), (some (36, true)), [42, 39]⟩,
    ⟨(some 44), .pick (.t 36) (.t 43) (.c (.bool false)), none, [43, 36]⟩,
    ⟨(some 45), .mov (.t 44), none, [44]⟩,
    ⟨(some 46), .fieldAddr 3 (.t 5), (some (45, true)), []⟩,
    ⟨(some 47), .load1 (.t 46), (some (45, true)), [46]⟩,
    ⟨(some 48), .mov (.t 47), (some (45, true)), [47]⟩,
    ⟨(some 49), .fieldAddr 3 (.t 3), (some (48, false)), []⟩,
    ⟨(some 50), .load1 (.t 49), (some (48, false)), [49]⟩,
    ⟨(some 51), .not (.t 50), (some (48, false)), [50]⟩,
    ⟨(some 52), .pick (.t 48) (.c (.bool true)) (.t 51), (some (45, true)), [51, 48]⟩,
    ⟨(some 53), .pick (.t 45) (.t 52) (.c (.bool false)), none, [52, 45]⟩,
    ⟨(some 54), .mov (.t 53), none, [53]⟩,
    ⟨(some 55), .fieldAddr 4 (.t 5), (some (54, true)), []⟩,
    ⟨(some 56), .load1 (.t 55), (some (54, true)), [55]⟩,
    ⟨(some 57), .mov (.t 56), (some (54, true)), [56]⟩,
    ⟨(some 58), .fieldAddr 4 (.t 3), (some (57, false)), []⟩,
    ⟨(some 59), .load1 (.t 58), (some (57, false)), [58]⟩,
    ⟨(some 60), .not (.t 59), (some (57, false)), [59]⟩,
    ⟨(some 61), .pick (.t 57) (.c (.bool true)) (.t 60), (some (54, true)), [60, 57]⟩,
    ⟨(some 62), .pick (.t 54) (.t 61) (.c (.bool false)), none, [61, 54]⟩,
    ⟨(some 63), .mov (.t 62), none, [62]⟩,
    ⟨(some 64), .fieldAddr 5 (.t 5), (some (63, true)), [5]⟩,
    ⟨(some 65), .load1 (.t 64), (some (63, true)), [64]⟩,
    ⟨(some 66), .bin .eql .none (.t 65) (.c (.int .i64 1)), (some (63, true)), [65]⟩,
    ⟨(some 67), .mov (.t 66), (some (63, true)), [66]⟩,
    ⟨(some 68), .fieldAddr 5 (.t 3), (some (67, false)), []⟩,
    ⟨(some 69), .load1 (.t 68), (some (67, false)), [68]⟩,
    ⟨(some 70), .bin .eql .none (.t 69) (.c (.int .i64 0)), (some (67, false)), [69]⟩,
    ⟨(some 71), .pick (.t 67) (.c (.bool true)) (.t 70), (some (63, true)), [70, 67]⟩,
    ⟨(some 72), .pick (.t 63) (.t 71) (.c (.bool false)), none, [71, 63]⟩,
    ⟨(some 73), .mov (.t 72), none, [72]⟩,
    ⟨(some 74), .fieldAddr 1 (.t 3), (some (73, true)), [3]⟩,
    ⟨(some 75), .load1 (.t 74), (some (73, true)), [74]⟩,
    ⟨(some 76), .bin .geq .none (.t 75) (.c (.int .i64 0)), (some (73, true)), [75]⟩,
    ⟨(some 77), .mov (.t 76), (some (73, true)), [76]⟩,
    ⟨(some 78), .mov (.t 0), (some (77, false)), [0]⟩,
    ⟨(some 79), .bin .eql .none (.t 78) (.c (.int .i64 12)), (some (77, false)), [78]⟩,
    ⟨(some 80), .pick (.t 77) (.c (.bool true)) (.t 79), (some (73, true)), [79, 77]⟩,
    ⟨(some 81), .pick (.t 73) (.t 80) (.c (.bool false)), none, [80, 73]⟩,
    ⟨(some 4), .mov (.t 81), none, [81]⟩])
  (.ret)))), 82, [.tmp 4]⟩
theorem f21_ok : compF Try.prog Try.f21 [⟨0, [], [], [[1], [4]]⟩, ⟨0, [], [], [[], [8], [], [9]]⟩, ⟨0, [], [], [[], [11], [12], [], [10], [13, 6], [14]]⟩, ⟨0, [], [], [[7], [15], [16], [], [18], [19], [], [21], [22], [23, 20], [24, 17], [25], [], [27], [28], [29], [], [31], [32], [33, 30], [34, 26], [35], [], [37], [38], [], [40], [41], [42, 39], [43, 36], [44], [], [46], [47], [], [49], [50], [51, 48], [52, 45], [53], [], [55], [56], [], [58], [59], [60, 57], [61, 54], [62], [5], [64], [65], [66], [], [68], [69], [70, 67], [71, 63], [72], [3], [74], [75], [76], [0], [78], [79, 77], [80, 73], [81]]⟩] = some f21 := by kernel_rfl

/-! 22: polyglot/octet.Put -/
def f22_M0 : List Bool := [true, true, false, false, false, true, false, false, false, false, false, false, false, true, true, false, false, false, false, false, false, false, false, false, false, false, false, false, false, false, false, false, false, false]
def f22_O0 : List Bool := [false, false, false, false, false, true, false, false, false, false, false, false, false, false, false, false, false, false, false, false, false, false, false, false, false, false, false, false, false, false, false, false, false, false]
def f22_L0 : AC := .seq (.ops [⟨(some 15), .bin .lss .none (.t 14) (.t 13), none, []⟩])
  (.seq (.cond (.t 15)
   (.skip)
   (.exit 0))
  (.seq (.block 1 (.seq (.ops [⟨(some 16), .mov (.t 14), none, [15]⟩,
     ⟨(some 6), .mov (.t 16), none, [16]⟩])
   (.seq (.ops [⟨(some 17), .mov (.t 6), none, []⟩,
     ⟨(some 18), .bin .lss .none (.t 17) (.c (.int .i64 8)), none, [17]⟩])
   (.cond (.t 18)
    (.ops [⟨(some 19), .mov (.t 5), none, [18]⟩,
      ⟨(some 20), .mov (.t 1), none, []⟩,
      ⟨(some 21), .bin .sub .none (.t 20) (.c (.int .i64 1)), none, [20]⟩,
      ⟨(some 22), .mov (.t 6), none, []⟩,
      ⟨(some 23), .bin .sub .none (.t 21) (.t 22), none, [22, 21]⟩,
      ⟨(some 24), .mov (.t 0), none, []⟩,
      ⟨(some 25), .mov (.t 6), none, [6]⟩,
      ⟨(some 26), .bin .mul .none (.c (.int .i64 8)) (.t 25), none, [25]⟩,
      ⟨(some 27), .conv .u64 (.t 26), none, [26]⟩,
      ⟨(some 28), .bin .shr .none (.t 24) (.t 27), none, [27, 24]⟩,
      ⟨(some 29), .conv .u8 (.t 28), none, [28]⟩,
      ⟨(some 30), .indexAddr 1 (.t 19) (.t 23), none, [23, 19]⟩,
      ⟨none, .store 1 (.t 30) (.t 29), none, [29, 30]⟩])
    (.skip)))))
  (.ops [⟨(some 31), .bin .add .none (.t 14) (.c (.int .i64 1)), none, [18, 14]⟩,
    ⟨(some 14), .mov (.t 31), none, [31]⟩])))
/-- live: [0, 1, 5, 13, 14] -/
def f22_S0 (x0 x1 x5 x13 x14 : KV) : List KV := [x0, x1, .junk, .junk, .junk, x5, .junk, .junk, .junk, .junk, .junk, .junk, .junk, x13, x14, .junk, .junk, .junk, .junk, .junk, .junk, .junk, .junk, .junk, .junk, .junk, .junk, .junk, .junk, .junk, .junk, .junk, .junk, .junk]
/-- live: [5] -/
def f22_E0 (x5 : KV) : List KV := [.junk, .junk, .junk, .junk, .junk, x5, .junk, .junk, .junk, .junk, .junk, .junk, .junk, .junk, .junk, .junk, .junk, .junk, .junk, .junk, .junk, .junk, .junk, .junk, .junk, .junk, .junk, .junk, .junk, .junk, .junk, .junk, .junk, .junk]
def f22_D0 {α : Type} (fr : List KV) (no : α) (yes : KV → KV → KV → KV → KV → α) : α :=
  match pickM f22_M0 fr with
  | some [x0, x1, x5, x13, x14] => yes x0 x1 x5 x13 x14
  | _ => no
theorem f22_D0_inv {β : Type} {fr : List KV} {yes : KV → KV → KV → KV → KV → Option β} {r : β} (h : f22_D0 fr none yes = some r) : ∃ x0 x1 x5 x13 x14, maskK f22_M0 fr = f22_S0 x0 x1 x5 x13 x14 ∧ yes x0 x1 x5 x13 x14 = some r := by
  unfold f22_D0 at h
  split at h
  · rename_i hp
    exact ⟨_, _, _, _, _, pickM_mask _ _ _ hp, h⟩
  · cases h
def f22 : AFn := ⟨.seq (.ops [⟨(some 4), .mov (.c (.str [])), none, [4]⟩])
  (.seq (.seq (.ops [⟨(some 7), .mov (.t 1), none, []⟩,
    ⟨(some 8), .bin .leq .none (.t 7) (.c (.int .i64 0)), none, [7]⟩])
  (.cond (.t 8)
   (.seq (.ops [⟨(some 4), .mov (.c (.str [])), none, [8]⟩])
   (.ret))
   (.skip)))
  (.seq (.ops [⟨(some 9), .mov (.t 1), none, [8, 1]⟩,
    ⟨(some 10), .min (.t 9) (.c (.int .i64 16)), none, [9]⟩,
    ⟨(some 1), .mov (.t 10), none, [10]⟩])
  (.seq (.ops [⟨(some 11), .mov (.t 1), none, []⟩,
    ⟨(some 12), .mkslice 1 1 [.int .u8 0] (.t 11) (.t 11), none, [11]⟩,
    ⟨(some 5), .mov (.t 12), none, [12]⟩])
  (.seq (.seq (.ops [⟨(some 13), .mov (.t 1), none, []⟩,
    ⟨(some 14), .mov (.c (.int .i64 0)), none, []⟩])
  (.block 0 (.loop 0 f22_M0 f22_O0 f22_L0)))
  (.seq (.ops [⟨(some 32), .mov (.t 5), none, [15, 5]⟩,
    ⟨(some 33), .b2s (.t 32), none, [32]⟩,
    ⟨(some 4), .mov (.t 33), none, [33]⟩])
  (.ret)))))), 34, [.tmp 4]⟩
theorem f22_ok : compF Try.prog Try.f22 [⟨0, [], [], [[4]]⟩, ⟨0, [], [], [[], [7]]⟩, ⟨0, [], [], [[8]]⟩, ⟨0, [], [], [[8, 1], [9], [10]]⟩, ⟨0, [], [], [[], [11], [12]]⟩, ⟨0, [], [], [[], []]⟩, ⟨0, [true, true, false, false, false, true, false, false, false, false, false, false, false, true, true, false, false, false, false, false, false, false, false, false, false, false, false, false, false, false, false, false, false, false], [false, false, false, false, false, true, false, false, false, false, false, false, false, false, false, false, false, false, false, false, false, false, false, false, false, false, false, false, false, false, false, false, false, false], []⟩, ⟨0, [], [], [[]]⟩, ⟨0, [], [], [[15], [16]]⟩, ⟨0, [], [], [[], [17]]⟩, ⟨0, [], [], [[18], [], [20], [], [22, 21], [], [6], [25], [26], [27, 24], [28], [23, 19], [29, 30]]⟩, ⟨0, [], [], [[18, 14], [31]]⟩, ⟨0, [], [], [[15, 5], [32], [33]]⟩] = some f22 := by kernel_rfl

/-! 23: polyglot/octet.New -/
def f23 : AFn := ⟨.seq (.ops [⟨(some 2), .mov (.c (.nilptr)), none, [2]⟩])
  (.seq (.ops [⟨(some 3), .mov (.t 0), none, [0]⟩,
    ⟨(some 4), .build [.str [], .int .i64 0, .int .i64 0] [(0, 1, (.t 3))], none, [3]⟩,
    ⟨(some 5), .box (.t 4), none, [4]⟩,
    ⟨(some 2), .mov (.t 5), none, [5]⟩])
  (.ret)), 6, [.tmp 2]⟩
theorem f23_ok : compF Try.prog Try.f23 [⟨0, [], [], [[2]]⟩, ⟨0, [], [], [[0], [3], [4], [5]]⟩] = some f23 := by kernel_rfl

/-! 24: (*polyglot/octet.Cursor).Number -/
def f24 : AFn := ⟨.seq (.ops [⟨(some 4), .mov (.c (.int .u64 0)), none, [4]⟩])
  (.seq (.ops [⟨(some 5), .mov (.t 0), none, [0]⟩,
    ⟨(some 6), .mov (.t 1), none, [1]⟩,
    ⟨(some 7), .call (.c (.func (.func 31) [] [])) [(.t 5), (.t 6)], none, [5, 6]⟩,
    ⟨(some 8), .call (.c (.func (.func 30) [] [])) [(.t 7)], none, [7]⟩,
    ⟨(some 4), .mov (.t 8), none, [8]⟩])
  (.ret)), 9, [.tmp 4]⟩
theorem f24_ok : compF Try.prog Try.f24 [⟨0, [], [], [[4]]⟩, ⟨0, [], [], [[0], [1], [5, 6], [7], [8]]⟩] = some f24 := by kernel_rfl

/-! 25: (*polyglot/octet.Cursor).Err -/
def f25 : AFn := ⟨.seq (.ops [⟨(some 2), .mov (.c (.int .i64 0)), none, [2]⟩])
  (.seq (.seq (.ops [⟨(some 3), .mov (.t 0), none, []⟩,
    ⟨(some 4), .bin .eql .ptr (.t 3) (.c (.nilptr)), none, [3]⟩])
  (.cond (.t 4)
   (.seq (.ops [⟨(some 2), .mov (.c (.int .i64 1)), none, [4]⟩])
   (.ret))
   (.skip)))
  (.seq (.ops [⟨(some 5), .mov (.t 0), none, [4, 0]⟩,
    ⟨(some 6), .nilCheck (.t 5), none, [5]⟩,
    ⟨(some 7), .fieldAddr 2 (.t 6), none, [6]⟩,
    ⟨(some 8), .load1 (.t 7), none, [7]⟩,
    ⟨(some 2), .mov (.t 8), none, [8]⟩])
  (.ret))), 9, [.tmp 2]⟩
theorem f25_ok : compF Try.prog Try.f25 [⟨0, [], [], [[2]]⟩, ⟨0, [], [], [[], [3]]⟩, ⟨0, [], [], [[4]]⟩, ⟨0, [], [], [[4, 0], [5], [6], [7], [8]]⟩] = some f25 := by kernel_rfl

/-! 26: polyglot/snhead.Flag$1 -/
def f26 : AFn := ⟨.seq (.ops [⟨(some 5), .mov (.t 0), none, [0]⟩])
  (.cond (.t 5)
   (.ops [⟨(some 6), .load1 (.t 2), none, [5]⟩,
     ⟨(some 7), .mov (.t 1), none, [1]⟩,
     ⟨(some 8), .bin .or .none (.t 6) (.t 7), none, [7, 6]⟩,
     ⟨none, .store 1 (.t 2) (.t 8), none, [8, 2]⟩])
   (.skip)), 9, []⟩
theorem f26_ok : compF Try.prog Try.f26 [⟨0, [], [], [[0]]⟩, ⟨0, [], [], [[5], [1], [7, 6], [8, 2]]⟩] = some f26 := by kernel_rfl

/-! 27: polyglot/polyglotref16.Big -/
def f27_M0 : List Bool := [true, true, false, false, false, true, true, false, false, false, false, false, false, false, false, false, false, false, false, false, false]
def f27_O0 : List Bool := [false, false, false, false, false, true, false, false, false, false, false, false, false, false, false, false, false, false, false, false, false]
def f27_L0 : AC := .seq (.seq (.ops [⟨(some 7), .mov (.t 6), none, []⟩,
    ⟨(some 8), .mov (.t 1), none, []⟩,
    ⟨(some 9), .bin .lss .none (.t 7) (.t 8), none, [8, 7]⟩])
  (.cond (.t 9)
   (.skip)
   (.exit 0)))
  (.seq (.block 1 (.seq (.ops [⟨(some 12), .mov (.t 0), none, [9]⟩,
     ⟨(some 13), .conv .u8 (.t 12), none, [12]⟩,
     ⟨(some 14), .buildSlice 1 1 [.junk] [(0, 1, (.t 13))], none, [13]⟩,
     ⟨(some 15), .b2s (.t 14), none, [14]⟩,
     ⟨(some 16), .mov (.t 5), none, [5]⟩,
     ⟨(some 17), .bin .add .none (.t 15) (.t 16), none, [16, 15]⟩,
     ⟨(some 5), .mov (.t 17), none, [17]⟩])
   (.ops [⟨(some 18), .mov (.t 0), none, [0]⟩,
     ⟨(some 19), .bin .shr .none (.t 18) (.c (.int .u64 8)), none, [18]⟩,
     ⟨(some 0), .mov (.t 19), none, [19]⟩])))
  (.ops [⟨(some 10), .mov (.t 6), none, [6]⟩,
    ⟨(some 11), .bin .add .none (.t 10) (.c (.int .i64 1)), none, [10]⟩,
    ⟨(some 6), .mov (.t 11), none, [11]⟩]))
/-- live: [0, 1, 5, 6] -/
def f27_S0 (x0 x1 x5 x6 : KV) : List KV := [x0, x1, .junk, .junk, .junk, x5, x6, .junk, .junk, .junk, .junk, .junk, .junk, .junk, .junk, .junk, .junk, .junk, .junk, .junk, .junk]
/-- live: [5] -/
def f27_E0 (x5 : KV) : List KV := [.junk, .junk, .junk, .junk, .junk, x5, .junk, .junk, .junk, .junk, .junk, .junk, .junk, .junk, .junk, .junk, .junk, .junk, .junk, .junk, .junk]
def f27_D0 {α : Type} (fr : List KV) (no : α) (yes : KV → KV → KV → KV → α) : α :=
  match pickM f27_M0 fr with
  | some [x0, x1, x5, x6] => yes x0 x1 x5 x6
  | _ => no
theorem f27_D0_inv {β : Type} {fr : List KV} {yes : KV → KV → KV → KV → Option β} {r : β} (h : f27_D0 fr none yes = some r) : ∃ x0 x1 x5 x6, maskK f27_M0 fr = f27_S0 x0 x1 x5 x6 ∧ yes x0 x1 x5 x6 = some r := by
  unfold f27_D0 at h
  split at h
  · rename_i hp
    exact ⟨_, _, _, _, pickM_mask _ _ _ hp, h⟩
  · cases h
def f27 : AFn := ⟨.seq (.ops [⟨(some 4), .mov (.c (.str [])), none, [4]⟩])
  (.seq (.ops [⟨(some 5), .mov (.c (.str [])), none, []⟩])
  (.seq (.seq (.ops [⟨(some 6), .mov (.c (.int .i64 0)), none, []⟩])
  (.block 0 (.loop 0 f27_M0 f27_O0 f27_L0)))
  (.seq (.ops [⟨(some 20), .mov (.t 5), none, [9, 5]⟩,
    ⟨(some 4), .mov (.t 20), none, [20]⟩])
  (.ret)))), 21, [.tmp 4]⟩
theorem f27_ok : compF Try.prog Try.f27 [⟨0, [], [], [[4]]⟩, ⟨0, [], [], [[]]⟩, ⟨0, [], [], [[]]⟩, ⟨0, [true, true, false, false, false, true, true, false, false, false, false, false, false, false, false, false, false, false, false, false, false], [false, false, false, false, false, true, false, false, false, false, false, false, false, false, false, false, false, false, false, false, false], []⟩, ⟨0, [], [], [[], [], [8, 7]]⟩, ⟨0, [], [], [[9], [12], [13], [14], [5], [16, 15], [17]]⟩, ⟨0, [], [], [[0], [18], [19]]⟩, ⟨0, [], [], [[6], [10], [11]]⟩, ⟨0, [], [], [[9, 5], [20]]⟩] = some f27 := by kernel_rfl

/-! 28: polyglot/polyglotref16.Number -/
def f28_M0 : List Bool := [true, false, false, true, true, false, false, false, false, false, false, false, false, false, false, false, false, false, false]
def f28_O0 : List Bool := [false, false, false, true, false, false, false, false, false, false, false, false, false, false, false, false, false, false, false]
def f28_L0 : AC := .seq (.seq (.ops [⟨(some 5), .mov (.t 4), none, []⟩,
    ⟨(some 6), .mov (.t 0), none, []⟩,
    ⟨(some 7), .lenS (.t 6), none, [6]⟩,
    ⟨(some 8), .bin .lss .none (.t 5) (.t 7), none, [7, 5]⟩])
  (.cond (.t 8)
   (.skip)
   (.exit 0)))
  (.seq (.block 1 (.ops [⟨(some 11), .mov (.t 3), none, [8, 3]⟩,
     ⟨(some 12), .bin .shl .none (.t 11) (.c (.int .u64 8)), none, [11]⟩,
     ⟨(some 13), .mov (.t 0), none, []⟩,
     ⟨(some 14), .mov (.t 4), none, []⟩,
     ⟨(some 15), .indexStr (.t 13) (.t 14), none, [14, 13]⟩,
     ⟨(some 16), .conv .u64 (.t 15), none, [15]⟩,
     ⟨(some 17), .bin .or .none (.t 12) (.t 16), none, [16, 12]⟩,
     ⟨(some 3), .mov (.t 17), none, [17]⟩]))
  (.ops [⟨(some 9), .mov (.t 4), none, [4]⟩,
    ⟨(some 10), .bin .add .none (.t 9) (.c (.int .i64 1)), none, [9]⟩,
    ⟨(some 4), .mov (.t 10), none, [10]⟩]))
/-- live: [0, 3, 4] -/
def f28_S0 (x0 x3 x4 : KV) : List KV := [x0, .junk, .junk, x3, x4, .junk, .junk, .junk, .junk, .junk, .junk, .junk, .junk, .junk, .junk, .junk, .junk, .junk, .junk]
/-- live: [3] -/
def f28_E0 (x3 : KV) : List KV := [.junk, .junk, .junk, x3, .junk, .junk, .junk, .junk, .junk, .junk, .junk, .junk, .junk, .junk, .junk, .junk, .junk, .junk, .junk]
def f28_D0 {α : Type} (fr : List KV) (no : α) (yes : KV → KV → KV → α) : α :=
  match pickM f28_M0 fr with
  | some [x0, x3, x4] => yes x0 x3 x4
  | _ => no
theorem f28_D0_inv {β : Type} {fr : List KV} {yes : KV → KV → KV → Option β} {r : β} (h : f28_D0 fr none yes = some r) : ∃ x0 x3 x4, maskK f28_M0 fr = f28_S0 x0 x3 x4 ∧ yes x0 x3 x4 = some r := by
  unfold f28_D0 at h
  split at h
  · rename_i hp
    exact ⟨_, _, _, pickM_mask _ _ _ hp, h⟩
  · cases h
def f28 : AFn := ⟨.seq (.ops [⟨(some 2), .mov (.c (.int .u64 0)), none, [2]⟩])
  (.seq (.ops [⟨(some 3), .mov (.c (.int .u64 0)), none, []⟩])
  (.seq (.seq (.ops [⟨(some 4), .mov (.c (.int .i64 0)), none, []⟩])
  (.block 0 (.loop 0 f28_M0 f28_O0 f28_L0)))
  (.seq (.ops [⟨(some 18), .mov (.t 3), none, [8, 3]⟩,
    ⟨(some 2), .mov (.t 18), none, [18]⟩])
  (.ret)))), 19, [.tmp 2]⟩
theorem f28_ok : compF Try.prog Try.f28 [⟨0, [], [], [[2]]⟩, ⟨0, [], [], [[]]⟩, ⟨0, [], [], [[]]⟩, ⟨0, [true, false, false, true, true, false, false, false, false, false, false, false, false, false, false, false, false, false, false], [false, false, false, true, false, false, false, false, false, false, false, false, false, false, false, false, false, false, false], []⟩, ⟨0, [], [], [[], [], [6], [7, 5]]⟩, ⟨0, [], [], [[8, 3], [11], [], [], [14, 13], [15], [16, 12], [17]]⟩, ⟨0, [], [], [[4], [9], [10]]⟩, ⟨0, [], [], [[8, 3], [18]]⟩] = some f28 := by kernel_rfl

/-! 29: polyglot/polyglotref21.bit -/
def f29 : AFn := ⟨.seq (.ops [⟨(some 4), .mov (.c (.int .i64 0)), none, [4]⟩])
  (.seq (.seq (.ops [⟨(some 5), .mov (.t 0), none, [0]⟩])
  (.cond (.t 5)
   (.seq (.ops [⟨(some 6), .mov (.t 1), none, [5, 1]⟩,
     ⟨(some 4), .mov (.t 6), none, [6]⟩])
   (.ret))
   (.skip)))
  (.seq (.ops [⟨(some 4), .mov (.c (.int .i64 0)), none, [5]⟩])
  (.ret))), 7, [.tmp 4]⟩
theorem f29_ok : compF Try.prog Try.f29 [⟨0, [], [], [[4]]⟩, ⟨0, [], [], [[0]]⟩, ⟨0, [], [], [[5, 1], [6]]⟩, ⟨0, [], [], [[5]]⟩] = some f29 := by kernel_rfl

/-! 30: polyglot/octet.Get -/
def f30_M0 : List Bool := [true, false, false, true, false, false, false, false, false, false, false, false, false, false, true, true, false, false, false, false, false, false, false, false, false, false, false]
def f30_O0 : List Bool := [false, false, false, true, false, false, false, false, false, false, false, false, false, false, false, false, false, false, false, false, false, false, false, false, false, false, false]
def f30_L0 : AC := .seq (.ops [⟨(some 16), .bin .lss .none (.t 15) (.t 14), none, []⟩])
  (.seq (.cond (.t 16)
   (.skip)
   (.exit 0))
  (.seq (.block 1 (.seq (.ops [⟨(some 17), .mov (.t 15), none, [16]⟩,
     ⟨(some 4), .mov (.t 17), none, [17]⟩])
   (.ops [⟨(some 18), .mov (.t 3), none, [3]⟩,
     ⟨(some 19), .bin .shl .none (.t 18) (.c (.int .u64 8)), none, [18]⟩,
     ⟨(some 20), .mov (.t 0), none, []⟩,
     ⟨(some 21), .mov (.t 4), none, [4]⟩,
     ⟨(some 22), .indexStr (.t 20) (.t 21), none, [21, 20]⟩,
     ⟨(some 23), .conv .u64 (.t 22), none, [22]⟩,
     ⟨(some 24), .bin .or .none (.t 19) (.t 23), none, [23, 19]⟩,
     ⟨(some 3), .mov (.t 24), none, [24]⟩])))
  (.ops [⟨(some 25), .bin .add .none (.t 15) (.c (.int .i64 1)), none, [15]⟩,
    ⟨(some 15), .mov (.t 25), none, [25]⟩])))
/-- live: [0, 3, 14, 15] -/
def f30_S0 (x0 x3 x14 x15 : KV) : List KV := [x0, .junk, .junk, x3, .junk, .junk, .junk, .junk, .junk, .junk, .junk, .junk, .junk, .junk, x14, x15, .junk, .junk, .junk, .junk, .junk, .junk, .junk, .junk, .junk, .junk, .junk]
/-- live: [3] -/
def f30_E0 (x3 : KV) : List KV := [.junk, .junk, .junk, x3, .junk, .junk, .junk, .junk, .junk, .junk, .junk, .junk, .junk, .junk, .junk, .junk, .junk, .junk, .junk, .junk, .junk, .junk, .junk, .junk, .junk, .junk, .junk]
def f30_D0 {α : Type} (fr : List KV) (no : α) (yes : KV → KV → KV → KV → α) : α :=
  match pickM f30_M0 fr with
  | some [x0, x3, x14, x15] => yes x0 x3 x14 x15
  | _ => no
theorem f30_D0_inv {β : Type} {fr : List KV} {yes : KV → KV → KV → KV → Option β} {r : β} (h : f30_D0 fr none yes = some r) : ∃ x0 x3 x14 x15, maskK f30_M0 fr = f30_S0 x0 x3 x14 x15 ∧ yes x0 x3 x14 x15 = some r := by
  unfold f30_D0 at h
  split at h
  · rename_i hp
    exact ⟨_, _, _, _, pickM_mask _ _ _ hp, h⟩
  · cases h
def f30 : AFn := ⟨.seq (.ops [⟨(some 2), .mov (.c (.int .u64 0)), none, [2]⟩])
  (.seq (.seq (.ops [⟨(some 5), .mov (.t 0), none, []⟩,
    ⟨(some 6), .lenS (.t 5), none, [5]⟩,
    ⟨(some 7), .bin .gtr .none (.t 6) (.c (.int .i64 8)), none, [6]⟩])
  (.cond (.t 7)
   (.ops [⟨(some 8), .mov (.t 0), none, [7]⟩,
     ⟨(some 9), .mov (.t 0), none, [0]⟩,
     ⟨(some 10), .lenS (.t 9), none, [9]⟩,
     ⟨(some 11), .bin .sub .none (.t 10) (.c (.int .i64 8)), none, [10]⟩,
     ⟨(some 12), .substr (.t 8) (some (.t 11)) none, none, [11, 8]⟩,
     ⟨(some 0), .mov (.t 12), none, [12]⟩])
   (.skip)))
  (.seq (.ops [⟨(some 3), .mov (.c (.int .u64 0)), none, [7]⟩])
  (.seq (.seq (.ops [⟨(some 13), .mov (.t 0), none, []⟩,
    ⟨(some 14), .lenS (.t 13), none, [13]⟩,
    ⟨(some 15), .mov (.c (.int .i64 0)), none, []⟩])
  (.block 0 (.loop 0 f30_M0 f30_O0 f30_L0)))
  (.seq (.ops [⟨(some 26), .mov (.t 3), none, [16, 3]⟩,
    ⟨(some 2), .mov (.t 26), none, [26]⟩])
  (.ret))))), 27, [.tmp 2]⟩
theorem f30_ok : compF Try.prog Try.f30 [⟨0, [], [], [[2]]⟩, ⟨0, [], [], [[], [5], [6]]⟩, ⟨0, [], [], [[7], [0], [9], [10], [11, 8], [12]]⟩, ⟨0, [], [], [[7]]⟩, ⟨0, [], [], [[], [13], []]⟩, ⟨0, [true, false, false, true, false, false, false, false, false, false, false, false, false, false, true, true, false, false, false, false, false, false, false, false, false, false, false], [false, false, false, true, false, false, false, false, false, false, false, false, false, false, false, false, false, false, false, false, false, false, false, false, false, false, false], []⟩, ⟨0, [], [], [[]]⟩, ⟨0, [], [], [[16], [17]]⟩, ⟨0, [], [], [[3], [18], [], [4], [21, 20], [22], [23, 19], [24]]⟩, ⟨0, [], [], [[15], [25]]⟩, ⟨0, [], [], [[16, 3], [26]]⟩] = some f30 := by kernel_rfl

/-! 31: (*polyglot/octet.Cursor).Take -/
def f31 : AFn := ⟨.seq (.ops [⟨(some 4), .mov (.c (.str [])), none, [4]⟩])
  (.seq (.seq (.ops [⟨(some 6), .mov (.t 0), none, []⟩,
    ⟨(some 7), .call (.c (.func (.func 32) [] [])) [(.t 6)], none, [6]⟩,
    ⟨(some 8), .not (.t 7), none, [7]⟩])
  (.cond (.t 8)
   (.seq (.ops [⟨(some 4), .mov (.c (.str [])), none, [8]⟩])
   (.ret))
   (.skip)))
  (.seq (.seq (.ops [⟨(some 9), .mov (.t 0), none, [8]⟩,
    ⟨(some 10), .mov (.t 1), none, []⟩,
    ⟨(some 11), .call (.c (.func (.func 33) [] [])) [(.t 9), (.t 10)], none, [9, 10]⟩,
    ⟨(some 12), .not (.t 11), none, [11]⟩])
  (.cond (.t 12)
   (.seq (.ops [⟨(some 13), .mov (.t 0), none, [12, 0]⟩,
     ⟨(some 14), .nilCheck (.t 13), none, [13]⟩,
     ⟨(some 15), .fieldAddr 2 (.t 14), none, [14]⟩,
     ⟨none, .store 1 (.t 15) (.c (.int .i64 3)), none, [15]⟩])
   (.seq (.ops [⟨(some 4), .mov (.c (.str [])), none, []⟩])
   (.ret)))
   (.skip)))
  (.seq (.ops [⟨(some 16), .mov (.t 0), none, [12]⟩,
    ⟨(some 17), .nilCheck (.t 16), none, [16]⟩,
    ⟨(some 18), .fieldAddr 1 (.t 17), none, [17]⟩,
    ⟨(some 19), .load1 (.t 18), none, [18]⟩,
    ⟨(some 5), .mov (.t 19), none, [19]⟩])
  (.seq (.ops [⟨(some 20), .mov (.t 0), none, []⟩,
    ⟨(some 21), .nilCheck (.t 20), none, []⟩,
    ⟨(some 22), .fieldAddr 1 (.t 21), none, [21]⟩,
    ⟨(some 23), .load1 (.t 22), none, [22]⟩,
    ⟨(some 24), .mov (.t 1), none, [1]⟩,
    ⟨(some 25), .bin .add .none (.t 23) (.t 24), none, [24, 23]⟩,
    ⟨(some 26), .nilCheck (.t 20), none, [20]⟩,
    ⟨(some 27), .fieldAddr 1 (.t 26), none, [26]⟩,
    ⟨none, .store 1 (.t 27) (.t 25), none, [25, 27]⟩])
  (.seq (.quiet [⟨(some 28), .mov (.t 0), none, []⟩,
    ⟨(some 29), .nilCheck (.t 28), none, [28]⟩,
    ⟨(some 30), .fieldAddr 0 (.t 29), none, [29]⟩,
    ⟨(some 31), .load1 (.t 30), none, [30]⟩,
    ⟨(some 32), .mov (.t 5), none, [5]⟩,
    ⟨(some 33), .mov (.t 0), none, [0]⟩,
    ⟨(some 34), .nilCheck (.t 33), none, [33]⟩,
    ⟨(some 35), .fieldAddr 1 (.t 34), none, [34]⟩,
    ⟨(some 36), .load1 (.t 35), none, [35]⟩,
    ⟨(some 37), .substr (.t 31) (some (.t 32)) (some (.t 36)), none, [36, 32, 31]⟩,
    ⟨(some 4), .mov (.t 37), none, [37]⟩])
  (.ret)))))), 38, [.tmp 4]⟩
theorem f31_ok : compF Try.prog Try.f31 [⟨0, [], [], [[4]]⟩, ⟨0, [], [], [[], [6], [7]]⟩, ⟨0, [], [], [[8]]⟩, ⟨0, [], [], [[8], [], [9, 10], [11]]⟩, ⟨0, [], [], [[12, 0], [13], [14], [15]]⟩, ⟨0, [], [], [[]]⟩, ⟨0, [], [], [[12], [16], [17], [18], [19]]⟩, ⟨0, [], [], [[], [], [21], [22], [1], [24, 23], [20], [26], [25, 27]]⟩, ⟨0, [], [], [[], [28], [29], [30], [5], [0], [33], [34], [35], [36, 32, 31], [37]]⟩] = some f31 := by kernel_rfl

/-! 32: (*polyglot/octet.Cursor).ready -/
def f32 : AFn := ⟨.seq (.ops [⟨(some 2), .mov (.c (.bool false)), none, [2]⟩])
  (.seq (.ops [⟨(some 3), .mov (.t 0), none, []⟩,
    ⟨(some 4), .bin .neq .ptr (.t 3) (.c (.nilptr)), none, [3]⟩,
    ⟨(some 5), .mov (.t 4), none, [4]⟩,
    ⟨(some 6), .mov (.t 0), (some (5, true)), [0]⟩,
    ⟨(some 7), .nilCheck (.t 6), (some (5, true)), [6]⟩,
    ⟨(some 8), .fieldAddr 2 (.t 7), (some (5, true)), [7]⟩,
    ⟨(some 9), .load1 (.t 8), (some (5, true)), [8]⟩,
    ⟨(some 10), .bin .eql .none (.t 9) (.c (.int .i64 0)), (some (5, true)), [9]⟩,
    ⟨(some 11), .pick (.t 5) (.t 10) (.c (.bool false)), none, [10, 5]⟩,
    ⟨(some 2), .mov (.t 11), none, [11]⟩])
  (.ret)), 12, [.tmp 2]⟩
theorem f32_ok : compF Try.prog Try.f32 [⟨0, [], [], [[2]]⟩, ⟨0, [], [], [[], [3], [4], [0], [6], [7], [8], [9], [10, 5], [11]]⟩] = some f32 := by kernel_rfl

/-! 33: (*polyglot/octet.Cursor).has -/
def f33 : AFn := ⟨.seq (.ops [⟨(some 4), .mov (.c (.bool false)), none, [4]⟩])
  (.seq (.quiet [⟨(some 5), .mov (.t 1), none, []⟩,
    ⟨(some 6), .bin .geq .none (.t 5) (.c (.int .i64 0)), none, [5]⟩,
    ⟨(some 7), .mov (.t 6), none, [6]⟩,
    ⟨(some 8), .mov (.t 1), (some (7, true)), [1]⟩,
    ⟨(some 9), .mov (.t 0), (some (7, true)), []⟩,
    ⟨(some 10), .nilCheck (.t 9), (some (7, true)), [9]⟩,
    ⟨(some 11), .fieldAddr 0 (.t 10), (some (7, true)), [10]⟩,
    ⟨(some 12), .load1 (.t 11), (some (7, true)), [11]⟩,
    ⟨(some 13), .lenS (.t 12), (some (7, true)), [12]⟩,
    ⟨(some 14), .mov (.t 0), (some (7, true)), [0]⟩,
    ⟨(some 15), .nilCheck (.t 14), (some (7, true)), [14]⟩,
    ⟨(some 16), .fieldAddr 1 (.t 15), (some (7, true)), [15]⟩,
    ⟨(some 17), .load1 (.t 16), (some (7, true)), [16]⟩,
    ⟨(some 18), .bin .sub .none (.t 13) (.t 17), (some (7, true)), [17, 13]⟩,
    ⟨(some 19), .bin .leq .none (.t 8) (.t 18), (some (7, true)), [18, 8]⟩,
    ⟨(some 20), .pick (.t 7) (.t 19) (.c (.bool false)), none, [19, 7]⟩,
    ⟨(some 4), .mov (.t 20), none, [20]⟩])
  (.ret)), 21, [.tmp 4]⟩
theorem f33_ok : compF Try.prog Try.f33 [⟨0, [], [], [[4]]⟩, ⟨0, [], [], [[], [5], [6], [1], [], [9], [10], [11], [12], [0], [14], [15], [16], [17, 13], [18, 8], [19, 7], [20]]⟩] = some f33 := by kernel_rfl

def F : FuncId → Option AFn
  | 3 => some f3
  | 4 => some f4
  | 5 => some f5
  | 6 => some f6
  | 7 => some f7
  | 8 => some f8
  | 9 => some f9
  | 10 => some f10
  | 11 => some f11
  | 12 => some f12
  | 13 => some f13
  | 14 => some f14
  | 15 => some f15
  | 16 => some f16
  | 17 => some f17
  | 18 => some f18
  | 19 => some f19
  | 20 => some f20
  | 21 => some f21
  | 22 => some f22
  | 23 => some f23
  | 24 => some f24
  | 25 => some f25
  | 26 => some f26
  | 27 => some f27
  | 28 => some f28
  | 29 => some f29
  | 30 => some f30
  | 31 => some f31
  | 32 => some f32
  | 33 => some f33
  | _ => none

theorem F_ok : FOk Try.prog F := by
  intro f fa h
  unfold F at h
  split at h
  · cases h; exact ⟨_, _, Try.func3, f3_ok⟩
  · cases h; exact ⟨_, _, Try.func4, f4_ok⟩
  · cases h; exact ⟨_, _, Try.func5, f5_ok⟩
  · cases h; exact ⟨_, _, Try.func6, f6_ok⟩
  · cases h; exact ⟨_, _, Try.func7, f7_ok⟩
  · cases h; exact ⟨_, _, Try.func8, f8_ok⟩
  · cases h; exact ⟨_, _, Try.func9, f9_ok⟩
  · cases h; exact ⟨_, _, Try.func10, f10_ok⟩
  · cases h; exact ⟨_, _, Try.func11, f11_ok⟩
  · cases h; exact ⟨_, _, Try.func12, f12_ok⟩
  · cases h; exact ⟨_, _, Try.func13, f13_ok⟩
  · cases h; exact ⟨_, _, Try.func14, f14_ok⟩
  · cases h; exact ⟨_, _, Try.func15, f15_ok⟩
  · cases h; exact ⟨_, _, Try.func16, f16_ok⟩
  · cases h; exact ⟨_, _, Try.func17, f17_ok⟩
  · cases h; exact ⟨_, _, Try.func18, f18_ok⟩
  · cases h; exact ⟨_, _, Try.func19, f19_ok⟩
  · cases h; exact ⟨_, _, Try.func20, f20_ok⟩
  · cases h; exact ⟨_, _, Try.func21, f21_ok⟩
  · cases h; exact ⟨_, _, Try.func22, f22_ok⟩
  · cases h; exact ⟨_, _, Try.func23, f23_ok⟩
  · cases h; exact ⟨_, _, Try.func24, f24_ok⟩
  · cases h; exact ⟨_, _, Try.func25, f25_ok⟩
  · cases h; exact ⟨_, _, Try.func26, f26_ok⟩
  · cases h; exact ⟨_, _, Try.func27, f27_ok⟩
  · cases h; exact ⟨_, _, Try.func28, f28_ok⟩
  · cases h; exact ⟨_, _, Try.func29, f29_ok⟩
  · cases h; exact ⟨_, _, Try.func30, f30_ok⟩
  · cases h; exact ⟨_, _, Try.func31, f31_ok⟩
  · cases h; exact ⟨_, _, Try.func32, f32_ok⟩
  · cases h; exact ⟨_, _, Try.func33, f33_ok⟩
  · cases h

end Go.Proofs.Ytahifkdnkhlknaa.Ax

/- The functions of the program as the abstract machine's code: each is what the model's code is turned into. -/
import Derived.Test.YtbgnflbbebnagaaA20
import Derived.Test.YtbgnflbbebnagaaProg
import Derived.KernelRfl
namespace Go.Proofs.Ytbgnflbbebnagaa.Abs
open Go

theorem mixed : Try.prog.follows .mixedOrders = true := by kernel_rfl

/-- "gosem.cut.init": 1 temporaries, 0 parameters, results some []. -/
def ac2 : AC :=
  .reg []
    [⟨some 0, none, .call 1, []⟩]
theorem i2 : fnInfo Try.prog 2 = some (1, [], ac2) := by kernel_rfl
/-- "crossroads/crossroadslaw15.ElectTold": 96 temporaries, 2 parameters, results some [4]. -/
def ac3 : AC :=
  .seq (.reg []
    [⟨some 4, none, .mov, [.c (.bool false)]⟩])
  (.seq (.seq (.reg []
    [⟨some 15, none, .mov, [.t 0]⟩,
     ⟨some 16, none, .lenL, [.t 15]⟩,
     ⟨some 17, none, .bin .gtr .scal, [.t 16, .c (.int .i64 60)]⟩])
  (.cond (.t 17)
  (.seq (.reg []
    [⟨some 18, none, .call 7, []⟩,
     ⟨some 4, none, .mov, [.t 18]⟩])
  .ret)
  .skip))
  (.seq (.reg []
    [⟨some 19, none, .bslice 4 38, []⟩,
     ⟨some 20, none, .mov, [.t 0]⟩,
     ⟨some 21, none, .append 4 38 24, [.t 19, .t 20]⟩,
     ⟨some 5, none, .mov, [.t 21]⟩])
  (.seq (.reg []
    [⟨some 23, none, .mov, [.t 5]⟩,
     ⟨some 24, none, .call 8, [.t 23]⟩,
     ⟨some 22, none, .mov, [.t 24]⟩,
     ⟨some 25, none, .ext 0, [.t 22]⟩,
     ⟨some 26, none, .ext 1, [.t 22]⟩,
     ⟨some 6, none, .mov, [.t 25]⟩,
     ⟨some 7, none, .mov, [.t 26]⟩])
  (.seq (.reg []
    [⟨some 28, none, .mov, [.t 0]⟩,
     ⟨some 29, none, .call 10, [.t 28]⟩,
     ⟨some 30, none, .call 9, [.t 29]⟩,
     ⟨some 27, none, .mov, [.t 30]⟩,
     ⟨some 31, none, .ext 0, [.t 27]⟩,
     ⟨some 32, none, .ext 1, [.t 27]⟩,
     ⟨some 8, none, .mov, [.t 31]⟩,
     ⟨some 9, none, .mov, [.t 32]⟩])
  (.seq (.reg []
    [⟨some 34, none, .mov, [.t 5]⟩,
     ⟨some 35, none, .mov, [.t 1]⟩,
     ⟨some 36, none, .call 11, [.t 34, .t 35]⟩,
     ⟨some 33, none, .mov, [.t 36]⟩,
     ⟨some 37, none, .ext 0, [.t 33]⟩,
     ⟨some 38, none, .ext 1, [.t 33]⟩,
     ⟨some 10, none, .mov, [.t 37]⟩,
     ⟨some 11, none, .mov, [.t 38]⟩])
  (.seq (.reg []
    [⟨some 40, none, .mov, [.t 0]⟩,
     ⟨some 41, none, .call 10, [.t 40]⟩,
     ⟨some 42, none, .mov, [.t 1]⟩,
     ⟨some 43, none, .call 12, [.t 41, .t 42]⟩,
     ⟨some 39, none, .mov, [.t 43]⟩,
     ⟨some 44, none, .ext 0, [.t 39]⟩,
     ⟨some 45, none, .ext 1, [.t 39]⟩,
     ⟨some 12, none, .mov, [.t 44]⟩,
     ⟨some 13, none, .mov, [.t 45]⟩])
  (.seq (.reg []
    [⟨some 46, none, .mov, [.t 0]⟩,
     ⟨some 47, none, .call 10, [.t 46]⟩,
     ⟨some 48, none, .call 13, [.t 47]⟩,
     ⟨some 14, none, .mov, [.t 48]⟩])
  (.seq (.reg []
    [⟨some 49, none, .call 7, []⟩,
     ⟨some 50, none, .mov, [.t 49]⟩,
     ⟨some 51, some (50, true), .mov, [.t 6]⟩,
     ⟨some 52, some (50, true), .mov, [.t 8]⟩,
     ⟨some 53, some (50, true), .bin .eql .scal, [.t 51, .t 52]⟩,
     ⟨some 54, none, .pick, [.t 50, .t 53, .c (.bool false)]⟩,
     ⟨some 55, none, .mov, [.t 54]⟩,
     ⟨some 56, some (55, true), .mov, [.t 7]⟩,
     ⟨some 57, some (55, true), .mov, [.t 9]⟩,
     ⟨some 58, some (55, true), .bin .eql .scal, [.t 56, .t 57]⟩,
     ⟨some 59, none, .pick, [.t 55, .t 58, .c (.bool false)]⟩,
     ⟨some 60, none, .mov, [.t 59]⟩,
     ⟨some 61, some (60, true), .mov, [.t 10]⟩,
     ⟨some 62, some (60, true), .mov, [.t 12]⟩,
     ⟨some 63, some (60, true), .bin .eql .scal, [.t 61, .t 62]⟩,
     ⟨some 64, none, .pick, [.t 60, .t 63, .c (.bool false)]⟩,
     ⟨some 65, none, .mov, [.t 64]⟩,
     ⟨some 66, some (65, true), .mov, [.t 11]⟩,
     ⟨some 67, some (65, true), .mov, [.t 13]⟩,
     ⟨some 68, some (65, true), .bin .eql .scal, [.t 66, .t 67]⟩,
     ⟨some 69, none, .pick, [.t 65, .t 68, .c (.bool false)]⟩,
     ⟨some 70, none, .mov, [.t 69]⟩,
     ⟨some 71, some (70, true), .mov, [.t 5]⟩,
     ⟨some 72, some (70, true), .call 14, [.t 71]⟩,
     ⟨some 73, some (70, true), .mov, [.t 14]⟩,
     ⟨some 74, some (70, true), .bin .eql .scal, [.t 72, .t 73]⟩,
     ⟨some 75, none, .pick, [.t 70, .t 74, .c (.bool false)]⟩,
     ⟨some 76, none, .mov, [.t 75]⟩,
     ⟨some 77, some (76, true), .mov, [.t 5]⟩,
     ⟨some 78, some (76, true), .mov, [.t 1]⟩,
     ⟨some 79, some (76, true), .call 15, [.t 77, .t 78]⟩,
     ⟨some 80, some (76, true), .mov, [.t 1]⟩,
     ⟨some 81, some (76, true), .bin .neq .scal, [.t 80, .c (.int .u32 0)]⟩,
     ⟨some 82, some (76, true), .mov, [.t 81]⟩,
     ⟨some 83, some (82, true), .mov, [.t 1]⟩,
     ⟨some 84, some (82, true), .mov, [.t 14]⟩,
     ⟨some 85, some (82, true), .bin .eql .scal, [.t 83, .t 84]⟩,
     ⟨some 86, some (76, true), .pick, [.t 82, .t 85, .c (.bool false)]⟩,
     ⟨some 87, some (76, true), .bin .eql .bool, [.t 79, .t 86]⟩,
     ⟨some 88, none, .pick, [.t 76, .t 87, .c (.bool false)]⟩,
     ⟨some 89, none, .mov, [.t 88]⟩,
     ⟨some 90, some (89, true), .mov, [.t 5]⟩,
     ⟨some 91, some (89, true), .call 10, [.t 90]⟩,
     ⟨some 92, some (89, true), .mov, [.t 0]⟩,
     ⟨some 93, some (89, true), .call 10, [.t 92]⟩,
     ⟨some 94, some (89, true), .call 16, [.t 91, .t 93]⟩,
     ⟨some 95, none, .pick, [.t 89, .t 94, .c (.bool false)]⟩,
     ⟨some 4, none, .mov, [.t 95]⟩])
  .ret))))))))
theorem i3 : fnInfo Try.prog 3 = some (96, [4], ac3) := by kernel_rfl
def ac4_1 : AC :=
  .seq (.seq (.reg []
    [⟨some 21, none, .mov, [.t 8]⟩,
     ⟨some 22, none, .mov, [.t 0]⟩,
     ⟨some 23, none, .lenL, [.t 22]⟩,
     ⟨some 24, none, .bin .lss .scal, [.t 21, .t 23]⟩])
  (.cond (.t 24)
  .skip
  (.exit 0)))
  (.seq (.block 1 (.seq (.reg []
    [⟨some 27, none, .mov, [.t 0]⟩,
     ⟨some 28, none, .mov, [.t 8]⟩,
     ⟨some 29, none, .idxA 4, [.t 27, .t 28]⟩,
     ⟨some 30, none, .fldA 1, [.t 29]⟩,
     ⟨some 31, none, .load none, [.t 30]⟩,
     ⟨some 32, none, .bin .gtr .scal, [.t 31, .c (.int .i64 0)]⟩])
  (.cond (.t 32)
  (.reg []
    [⟨some 7, none, .mov, [.c (.bool true)]⟩])
  .skip)))
  (.reg []
    [⟨some 25, none, .mov, [.t 8]⟩,
     ⟨some 26, none, .bin .add .scal, [.t 25, .c (.int .i64 1)]⟩,
     ⟨some 8, none, .mov, [.t 26]⟩]))
/-- "crossroads/crossroadslaw15.ElectFirst": 97 temporaries, 2 parameters, results some [4]. -/
def ac4 : AC :=
  .seq (.reg []
    [⟨some 4, none, .mov, [.c (.bool false)]⟩])
  (.seq (.seq (.reg []
    [⟨some 11, none, .mov, [.t 0]⟩,
     ⟨some 12, none, .call 10, [.t 11]⟩,
     ⟨some 13, none, .call 17, [.t 12]⟩,
     ⟨some 14, none, .unNot, [.t 13]⟩])
  (.cond (.t 14)
  (.seq (.reg []
    [⟨some 15, none, .call 7, []⟩,
     ⟨some 4, none, .mov, [.t 15]⟩])
  .ret)
  .skip))
  (.seq (.reg []
    [⟨some 17, none, .mov, [.t 0]⟩,
     ⟨some 18, none, .call 8, [.t 17]⟩,
     ⟨some 16, none, .mov, [.t 18]⟩,
     ⟨some 19, none, .ext 0, [.t 16]⟩,
     ⟨some 20, none, .ext 1, [.t 16]⟩,
     ⟨some 5, none, .mov, [.t 19]⟩,
     ⟨some 6, none, .mov, [.t 20]⟩])
  (.seq (.reg []
    [⟨some 7, none, .mov, [.c (.bool false)]⟩])
  (.seq (.seq (.reg []
    [⟨some 8, none, .mov, [.c (.int .i64 0)]⟩])
  (.block 0 (.loop ac4_1)))
  (.seq (.reg []
    [⟨some 34, none, .mov, [.t 0]⟩,
     ⟨some 35, none, .mov, [.t 1]⟩,
     ⟨some 36, none, .call 11, [.t 34, .t 35]⟩,
     ⟨some 33, none, .mov, [.t 36]⟩,
     ⟨some 37, none, .ext 0, [.t 33]⟩,
     ⟨some 38, none, .ext 1, [.t 33]⟩,
     ⟨some 9, none, .mov, [.t 37]⟩,
     ⟨some 10, none, .mov, [.t 38]⟩])
  (.seq (.seq (.reg []
    [⟨some 39, none, .mov, [.t 5]⟩,
     ⟨some 40, none, .bin .neq .scal, [.t 39, .c (.int .u32 0)]⟩,
     ⟨some 41, none, .mov, [.t 40]⟩,
     ⟨some 42, some (41, true), .mov, [.t 0]⟩,
     ⟨some 43, some (41, true), .mov, [.t 5]⟩,
     ⟨some 44, some (41, true), .call 18, [.t 42, .t 43]⟩,
     ⟨some 45, some (41, true), .unNot, [.t 44]⟩,
     ⟨some 46, none, .pick, [.t 41, .t 45, .c (.bool false)]⟩,
     ⟨some 47, none, .mov, [.t 46]⟩,
     ⟨some 48, some (47, false), .mov, [.t 6]⟩,
     ⟨some 49, some (47, false), .bin .neq .scal, [.t 48, .c (.int .u32 0)]⟩,
     ⟨some 50, some (47, false), .mov, [.t 49]⟩,
     ⟨some 51, some (50, true), .mov, [.t 0]⟩,
     ⟨some 52, some (50, true), .mov, [.t 6]⟩,
     ⟨some 53, some (50, true), .call 18, [.t 51, .t 52]⟩,
     ⟨some 54, some (50, true), .unNot, [.t 53]⟩,
     ⟨some 55, some (47, false), .pick, [.t 50, .t 54, .c (.bool false)]⟩,
     ⟨some 56, none, .pick, [.t 47, .c (.bool true), .t 55]⟩,
     ⟨some 57, none, .mov, [.t 56]⟩,
     ⟨some 58, some (57, false), .mov, [.t 9]⟩,
     ⟨some 59, some (57, false), .bin .neq .scal, [.t 58, .c (.int .u32 0)]⟩,
     ⟨some 60, some (57, false), .mov, [.t 59]⟩,
     ⟨some 61, some (60, true), .mov, [.t 0]⟩,
     ⟨some 62, some (60, true), .mov, [.t 9]⟩,
     ⟨some 63, some (60, true), .call 18, [.t 61, .t 62]⟩,
     ⟨some 64, some (60, true), .unNot, [.t 63]⟩,
     ⟨some 65, some (57, false), .pick, [.t 60, .t 64, .c (.bool false)]⟩,
     ⟨some 66, none, .pick, [.t 57, .c (.bool true), .t 65]⟩,
     ⟨some 67, none, .mov, [.t 66]⟩,
     ⟨some 68, some (67, false), .mov, [.t 10]⟩,
     ⟨some 69, some (67, false), .bin .neq .scal, [.t 68, .c (.int .u32 0)]⟩,
     ⟨some 70, some (67, false), .mov, [.t 69]⟩,
     ⟨some 71, some (70, true), .mov, [.t 0]⟩,
     ⟨some 72, some (70, true), .mov, [.t 10]⟩,
     ⟨some 73, some (70, true), .call 18, [.t 71, .t 72]⟩,
     ⟨some 74, some (70, true), .unNot, [.t 73]⟩,
     ⟨some 75, some (67, false), .pick, [.t 70, .t 74, .c (.bool false)]⟩,
     ⟨some 76, none, .pick, [.t 67, .c (.bool true), .t 75]⟩])
  (.cond (.t 76)
  (.seq (.reg []
    [⟨some 4, none, .mov, [.c (.bool false)]⟩])
  .ret)
  .skip))
  (.seq (.reg []
    [⟨some 77, none, .call 7, []⟩,
     ⟨some 78, none, .mov, [.t 77]⟩,
     ⟨some 79, some (78, true), .mov, [.t 5]⟩,
     ⟨some 80, some (78, true), .bin .neq .scal, [.t 79, .c (.int .u32 0)]⟩,
     ⟨some 81, some (78, true), .mov, [.t 7]⟩,
     ⟨some 82, some (78, true), .bin .eql .bool, [.t 80, .t 81]⟩,
     ⟨some 83, none, .pick, [.t 78, .t 82, .c (.bool false)]⟩,
     ⟨some 84, none, .mov, [.t 83]⟩,
     ⟨some 85, some (84, true), .mov, [.t 9]⟩,
     ⟨some 86, some (84, true), .bin .neq .scal, [.t 85, .c (.int .u32 0)]⟩,
     ⟨some 87, some (84, true), .mov, [.t 7]⟩,
     ⟨some 88, some (84, true), .bin .eql .bool, [.t 86, .t 87]⟩,
     ⟨some 89, none, .pick, [.t 84, .t 88, .c (.bool false)]⟩,
     ⟨some 90, none, .mov, [.t 89]⟩,
     ⟨some 91, some (90, true), .mov, [.t 0]⟩,
     ⟨some 92, some (90, true), .call 14, [.t 91]⟩,
     ⟨some 93, some (90, true), .bin .neq .scal, [.t 92, .c (.int .u32 0)]⟩,
     ⟨some 94, some (90, true), .mov, [.t 7]⟩,
     ⟨some 95, some (90, true), .bin .eql .bool, [.t 93, .t 94]⟩,
     ⟨some 96, none, .pick, [.t 90, .t 95, .c (.bool false)]⟩,
     ⟨some 4, none, .mov, [.t 96]⟩])
  .ret)))))))
theorem i4 : fnInfo Try.prog 4 = some (97, [4], ac4) := by kernel_rfl
/-- "crossroads/crossroadslaw15.ElectSettle": 17 temporaries, 1 parameters, results some [2]. -/
def ac5 : AC :=
  .seq (.reg []
    [⟨some 2, none, .mov, [.c (.bool false)]⟩])
  (.seq (.seq (.reg []
    [⟨some 3, none, .mov, [.t 0]⟩,
     ⟨some 4, none, .lenL, [.t 3]⟩,
     ⟨some 5, none, .bin .gtr .scal, [.t 4, .c (.int .i64 60)]⟩])
  (.cond (.t 5)
  (.seq (.reg []
    [⟨some 6, none, .call 7, []⟩,
     ⟨some 2, none, .mov, [.t 6]⟩])
  .ret)
  .skip))
  (.seq (.reg []
    [⟨some 7, none, .call 7, []⟩,
     ⟨some 8, none, .mov, [.t 7]⟩,
     ⟨some 9, some (8, true), .mov, [.t 0]⟩,
     ⟨some 10, some (8, true), .call 19, [.t 9]⟩,
     ⟨some 11, some (8, true), .call 10, [.t 10]⟩,
     ⟨some 12, some (8, true), .mov, [.t 0]⟩,
     ⟨some 13, some (8, true), .call 10, [.t 12]⟩,
     ⟨some 14, some (8, true), .call 20, [.t 13]⟩,
     ⟨some 15, some (8, true), .call 16, [.t 11, .t 14]⟩,
     ⟨some 16, none, .pick, [.t 8, .t 15, .c (.bool false)]⟩,
     ⟨some 2, none, .mov, [.t 16]⟩])
  .ret))
theorem i5 : fnInfo Try.prog 5 = some (17, [2], ac5) := by kernel_rfl
/-- "crossroads/crossroadslaw15.ElectSteady": 146 temporaries, 3 parameters, results some [6]. -/
def ac6 : AC :=
  .seq (.reg []
    [⟨some 4, none, .box, [.t 1]⟩,
     ⟨some 5, none, .box, [.t 2]⟩,
     ⟨some 6, none, .mov, [.c (.bool false)]⟩])
  (.seq (.seq (.reg []
    [⟨some 18, none, .mov, [.t 0]⟩,
     ⟨some 19, none, .lenL, [.t 18]⟩,
     ⟨some 20, none, .bin .eql .scal, [.t 19, .c (.int .i64 0)]⟩,
     ⟨some 21, none, .mov, [.t 20]⟩,
     ⟨some 22, some (21, false), .mov, [.t 0]⟩,
     ⟨some 23, some (21, false), .lenL, [.t 22]⟩,
     ⟨some 24, some (21, false), .bin .gtr .scal, [.t 23, .c (.int .i64 49)]⟩,
     ⟨some 25, none, .pick, [.t 21, .c (.bool true), .t 24]⟩,
     ⟨some 26, none, .mov, [.t 25]⟩,
     ⟨some 27, some (26, false), .idxAA 2 1, [.t 5, .c (.int .i64 0)]⟩,
     ⟨some 28, some (26, false), .load none, [.t 27]⟩,
     ⟨some 29, some (26, false), .bin .lss .scal, [.t 28, .c (.int .i64 0)]⟩,
     ⟨some 30, none, .pick, [.t 26, .c (.bool true), .t 29]⟩,
     ⟨some 31, none, .mov, [.t 30]⟩,
     ⟨some 32, some (31, false), .idxAA 2 1, [.t 5, .c (.int .i64 1)]⟩,
     ⟨some 33, some (31, false), .load none, [.t 32]⟩,
     ⟨some 34, some (31, false), .bin .lss .scal, [.t 33, .c (.int .i64 0)]⟩,
     ⟨some 35, none, .pick, [.t 31, .c (.bool true), .t 34]⟩])
  (.cond (.t 35)
  (.seq (.reg []
    [⟨some 36, none, .call 7, []⟩,
     ⟨some 6, none, .mov, [.t 36]⟩])
  .ret)
  .skip))
  (.seq (.reg [[], [], [1], [], [3], [2, 4], [0, 5], [6], [7], [], [], [10], [], [12], [11, 13], [9, 14], [15], [16], [8, 0, 1, 2, 3, 4, 5, 6, 7, 8], [17, 18, 0, 1, 2, 3, 4, 5, 6, 7, 8, 9, 10, 11, 12, 13, 14, 15, 16, 17, 18]]
    [⟨some 37, none, .mov, [.t 0]⟩,
     ⟨some 38, none, .idxAA 2 1, [.t 5, .c (.int .i64 0)]⟩,
     ⟨some 39, none, .load none, [.t 38]⟩,
     ⟨some 40, none, .mov, [.t 0]⟩,
     ⟨some 41, none, .lenL, [.t 40]⟩,
     ⟨some 42, none, .bin .rem .scal, [.t 39, .t 41]⟩,
     ⟨some 43, none, .idxA 4, [.t 37, .t 42]⟩,
     ⟨some 44, none, .fldA 0, [.t 43]⟩,
     ⟨some 45, none, .load none, [.t 44]⟩,
     ⟨some 46, none, .mov, [.t 0]⟩,
     ⟨some 47, none, .idxAA 2 1, [.t 5, .c (.int .i64 1)]⟩,
     ⟨some 48, none, .load none, [.t 47]⟩,
     ⟨some 49, none, .mov, [.t 0]⟩,
     ⟨some 50, none, .lenL, [.t 49]⟩,
     ⟨some 51, none, .bin .rem .scal, [.t 48, .t 50]⟩,
     ⟨some 52, none, .idxA 4, [.t 46, .t 51]⟩,
     ⟨some 53, none, .fldA 0, [.t 52]⟩,
     ⟨some 54, none, .load none, [.t 53]⟩,
     ⟨some 7, none, .mov, [.t 45]⟩,
     ⟨some 8, none, .mov, [.t 54]⟩])
  (.seq (.reg []
    [⟨some 55, none, .fldA 2, [.t 4]⟩,
     ⟨none, none, .store 1, [.t 55, .c (.int .u32 0)]⟩])
  (.seq (.reg []
    [⟨some 56, none, .fldA 3, [.t 4]⟩,
     ⟨none, none, .store 1, [.t 56, .c (.int .u32 0)]⟩])
  (.seq (.reg []
    [⟨some 57, none, .mov, [.t 0]⟩,
     ⟨some 58, none, .mov, [.t 7]⟩,
     ⟨some 59, none, .mov, [.t 8]⟩,
     ⟨some 60, none, .call 21, [.t 57, .t 58, .t 59]⟩,
     ⟨some 9, none, .mov, [.t 60]⟩])
  (.seq (.reg [[], [], [0, 1], [], [3], [2, 4, 2], [5, 5, 0, 1, 2, 3, 4, 5]]
    [⟨some 61, none, .bslice 4 38, []⟩,
     ⟨some 62, none, .mov, [.t 9]⟩,
     ⟨some 63, none, .append 4 38 24, [.t 61, .t 62]⟩,
     ⟨some 64, none, .load (some 4), [.t 4]⟩,
     ⟨some 65, none, .bslice 4 38, [.t 64]⟩,
     ⟨some 66, none, .append 4 38 24, [.t 63, .t 65]⟩,
     ⟨some 10, none, .mov, [.t 66]⟩])
  (.seq (.seq (.reg []
    [⟨some 67, none, .mov, [.t 7]⟩,
     ⟨some 68, none, .mov, [.t 8]⟩,
     ⟨some 69, none, .bin .eql .scal, [.t 67, .t 68]⟩,
     ⟨some 70, none, .mov, [.t 69]⟩,
     ⟨some 71, some (70, false), .mov, [.t 0]⟩,
     ⟨some 72, some (70, false), .mov, [.t 7]⟩,
     ⟨some 73, some (70, false), .call 18, [.t 71, .t 72]⟩,
     ⟨some 74, some (70, false), .unNot, [.t 73]⟩,
     ⟨some 75, none, .pick, [.t 70, .c (.bool true), .t 74]⟩,
     ⟨some 76, none, .mov, [.t 75]⟩,
     ⟨some 77, some (76, false), .mov, [.t 0]⟩,
     ⟨some 78, some (76, false), .mov, [.t 8]⟩,
     ⟨some 79, some (76, false), .call 18, [.t 77, .t 78]⟩,
     ⟨some 80, some (76, false), .unNot, [.t 79]⟩,
     ⟨some 81, none, .pick, [.t 76, .c (.bool true), .t 80]⟩,
     ⟨some 82, none, .mov, [.t 81]⟩,
     ⟨some 83, some (82, false), .mov, [.t 10]⟩,
     ⟨some 84, some (82, false), .call 10, [.t 83]⟩,
     ⟨some 85, some (82, false), .call 17, [.t 84]⟩,
     ⟨some 86, some (82, false), .unNot, [.t 85]⟩,
     ⟨some 87, none, .pick, [.t 82, .c (.bool true), .t 86]⟩])
  (.cond (.t 87)
  (.seq (.reg []
    [⟨some 88, none, .call 7, []⟩,
     ⟨some 6, none, .mov, [.t 88]⟩])
  .ret)
  .skip))
  (.seq (.reg []
    [⟨some 90, none, .mov, [.t 9]⟩,
     ⟨some 91, none, .call 8, [.t 90]⟩,
     ⟨some 89, none, .mov, [.t 91]⟩,
     ⟨some 92, none, .ext 0, [.t 89]⟩,
     ⟨some 93, none, .ext 1, [.t 89]⟩,
     ⟨some 11, none, .mov, [.t 92]⟩,
     ⟨some 12, none, .mov, [.t 93]⟩])
  (.seq (.reg []
    [⟨some 95, none, .mov, [.t 10]⟩,
     ⟨some 96, none, .call 8, [.t 95]⟩,
     ⟨some 94, none, .mov, [.t 96]⟩,
     ⟨some 97, none, .ext 0, [.t 94]⟩,
     ⟨some 98, none, .ext 1, [.t 94]⟩,
     ⟨some 13, none, .mov, [.t 97]⟩,
     ⟨some 14, none, .mov, [.t 98]⟩])
  (.seq (.reg []
    [⟨some 100, none, .mov, [.t 10]⟩,
     ⟨some 101, none, .fldA 0, [.t 4]⟩,
     ⟨some 102, none, .load none, [.t 101]⟩,
     ⟨some 103, none, .call 11, [.t 100, .t 102]⟩,
     ⟨some 99, none, .mov, [.t 103]⟩,
     ⟨some 104, none, .ext 0, [.t 99]⟩,
     ⟨some 105, none, .ext 1, [.t 99]⟩,
     ⟨some 15, none, .mov, [.t 104]⟩,
     ⟨some 16, none, .mov, [.t 105]⟩])
  (.seq (.reg []
    [⟨some 106, none, .mov, [.t 9]⟩,
     ⟨some 107, none, .call 19, [.t 106]⟩,
     ⟨some 17, none, .mov, [.t 107]⟩])
  (.seq (.reg []
    [⟨some 108, none, .call 7, []⟩,
     ⟨some 109, none, .mov, [.t 108]⟩,
     ⟨some 110, some (109, true), .mov, [.t 11]⟩,
     ⟨some 111, some (109, true), .mov, [.t 7]⟩,
     ⟨some 112, some (109, true), .bin .eql .scal, [.t 110, .t 111]⟩,
     ⟨some 113, none, .pick, [.t 109, .t 112, .c (.bool false)]⟩,
     ⟨some 114, none, .mov, [.t 113]⟩,
     ⟨some 115, some (114, true), .mov, [.t 12]⟩,
     ⟨some 116, some (114, true), .mov, [.t 8]⟩,
     ⟨some 117, some (114, true), .bin .eql .scal, [.t 115, .t 116]⟩,
     ⟨some 118, none, .pick, [.t 114, .t 117, .c (.bool false)]⟩,
     ⟨some 119, none, .mov, [.t 118]⟩,
     ⟨some 120, some (119, true), .mov, [.t 13]⟩,
     ⟨some 121, some (119, true), .mov, [.t 7]⟩,
     ⟨some 122, some (119, true), .bin .eql .scal, [.t 120, .t 121]⟩,
     ⟨some 123, none, .pick, [.t 119, .t 122, .c (.bool false)]⟩,
     ⟨some 124, none, .mov, [.t 123]⟩,
     ⟨some 125, some (124, true), .mov, [.t 14]⟩,
     ⟨some 126, some (124, true), .mov, [.t 8]⟩,
     ⟨some 127, some (124, true), .bin .eql .scal, [.t 125, .t 126]⟩,
     ⟨some 128, none, .pick, [.t 124, .t 127, .c (.bool false)]⟩,
     ⟨some 129, none, .mov, [.t 128]⟩,
     ⟨some 130, some (129, true), .mov, [.t 15]⟩,
     ⟨some 131, some (129, true), .mov, [.t 7]⟩,
     ⟨some 132, some (129, true), .bin .eql .scal, [.t 130, .t 131]⟩,
     ⟨some 133, none, .pick, [.t 129, .t 132, .c (.bool false)]⟩,
     ⟨some 134, none, .mov, [.t 133]⟩,
     ⟨some 135, some (134, true), .mov, [.t 16]⟩,
     ⟨some 136, some (134, true), .mov, [.t 8]⟩,
     ⟨some 137, some (134, true), .bin .eql .scal, [.t 135, .t 136]⟩,
     ⟨some 138, none, .pick, [.t 134, .t 137, .c (.bool false)]⟩,
     ⟨some 139, none, .mov, [.t 138]⟩,
     ⟨some 140, some (139, true), .mov, [.t 17]⟩,
     ⟨some 141, some (139, true), .call 10, [.t 140]⟩,
     ⟨some 142, some (139, true), .mov, [.t 9]⟩,
     ⟨some 143, some (139, true), .call 10, [.t 142]⟩,
     ⟨some 144, some (139, true), .call 16, [.t 141, .t 143]⟩,
     ⟨some 145, none, .pick, [.t 139, .t 144, .c (.bool false)]⟩,
     ⟨some 6, none, .mov, [.t 145]⟩])
  .ret))))))))))))
theorem i6 : fnInfo Try.prog 6 = some (146, [6], ac6) := by kernel_rfl
/-- "crossroads/crossroadslaw15.alive": 32 temporaries, 0 parameters, results some [0]. -/
def ac7 : AC :=
  .seq (.reg []
    [⟨some 0, none, .mov, [.c (.bool false)]⟩])
  (.seq (.reg []
    [⟨some 4, none, .build [.int .u32 0, .int .i64 0, .int .u32 0, .int .u32 0] [(0, 1), (1, 1)], [.c (.int .u32 1), .c (.int .i64 1)]⟩,
     ⟨some 5, none, .build [.int .u32 0, .int .i64 0, .int .u32 0, .int .u32 0] [(0, 1), (1, 1)], [.c (.int .u32 2), .c (.int .i64 1)]⟩,
     ⟨some 6, none, .bslice 4 38, [.t 4, .t 5]⟩,
     ⟨some 1, none, .mov, [.t 6]⟩])
  (.seq (.reg []
    [⟨some 8, none, .mov, [.t 1]⟩,
     ⟨some 9, none, .call 11, [.t 8, .c (.int .u32 2)]⟩,
     ⟨some 7, none, .mov, [.t 9]⟩,
     ⟨some 10, none, .ext 0, [.t 7]⟩,
     ⟨some 11, none, .ext 1, [.t 7]⟩,
     ⟨some 2, none, .mov, [.t 10]⟩,
     ⟨some 3, none, .mov, [.t 11]⟩])
  (.seq (.reg []
    [⟨some 12, none, .mov, [.t 2]⟩,
     ⟨some 13, none, .bin .eql .scal, [.t 12, .c (.int .u32 2)]⟩,
     ⟨some 14, none, .mov, [.t 13]⟩,
     ⟨some 15, some (14, true), .mov, [.t 3]⟩,
     ⟨some 16, some (14, true), .bin .eql .scal, [.t 15, .c (.int .u32 1)]⟩,
     ⟨some 17, none, .pick, [.t 14, .t 16, .c (.bool false)]⟩,
     ⟨some 18, none, .mov, [.t 17]⟩,
     ⟨some 19, some (18, true), .mov, [.t 1]⟩,
     ⟨some 20, some (18, true), .call 14, [.t 19]⟩,
     ⟨some 21, some (18, true), .bin .eql .scal, [.t 20, .c (.int .u32 2)]⟩,
     ⟨some 22, none, .pick, [.t 18, .t 21, .c (.bool false)]⟩,
     ⟨some 23, none, .mov, [.t 22]⟩,
     ⟨some 24, some (23, true), .mov, [.t 1]⟩,
     ⟨some 25, some (23, true), .call 15, [.t 24, .c (.int .u32 2)]⟩,
     ⟨some 26, none, .pick, [.t 23, .t 25, .c (.bool false)]⟩,
     ⟨some 27, none, .mov, [.t 26]⟩,
     ⟨some 28, some (27, true), .mov, [.t 1]⟩,
     ⟨some 29, some (27, true), .call 15, [.t 28, .c (.int .u32 1)]⟩,
     ⟨some 30, some (27, true), .unNot, [.t 29]⟩,
     ⟨some 31, none, .pick, [.t 27, .t 30, .c (.bool false)]⟩,
     ⟨some 0, none, .mov, [.t 31]⟩])
  .ret)))
theorem i7 : fnInfo Try.prog 7 = some (32, [0], ac7) := by kernel_rfl
/-- "crossroads/elect.Turn": 11 temporaries, 1 parameters, results some [2, 3]. -/
def ac8 : AC :=
  .seq (.reg []
    [⟨some 2, none, .mov, [.c (.int .u32 0)]⟩,
     ⟨some 3, none, .mov, [.c (.int .u32 0)]⟩])
  (.seq (.seq (.reg []
    [⟨some 4, none, .mov, [.t 0]⟩,
     ⟨some 5, none, .call 22, [.t 4]⟩,
     ⟨some 6, none, .unNot, [.t 5]⟩])
  (.cond (.t 6)
  (.seq (.reg []
    [⟨some 2, none, .mov, [.c (.int .u32 0)]⟩,
     ⟨some 3, none, .mov, [.c (.int .u32 0)]⟩])
  .ret)
  .skip))
  (.seq (.reg []
    [⟨some 7, none, .mov, [.t 0]⟩,
     ⟨some 8, none, .call 23, [.t 7]⟩,
     ⟨some 9, none, .ext 0, [.t 8]⟩,
     ⟨some 10, none, .ext 1, [.t 8]⟩,
     ⟨some 2, none, .mov, [.t 9]⟩,
     ⟨some 3, none, .mov, [.t 10]⟩])
  .ret))
theorem i8 : fnInfo Try.prog 8 = some (11, [2, 3], ac8) := by kernel_rfl
/-- "crossroads/crossroadsref15.Turn": 11 temporaries, 1 parameters, results some [2, 3]. -/
def ac9 : AC :=
  .seq (.reg []
    [⟨some 2, none, .mov, [.c (.int .u32 0)]⟩,
     ⟨some 3, none, .mov, [.c (.int .u32 0)]⟩])
  (.seq (.seq (.reg []
    [⟨some 4, none, .mov, [.t 0]⟩,
     ⟨some 5, none, .call 17, [.t 4]⟩,
     ⟨some 6, none, .unNot, [.t 5]⟩])
  (.cond (.t 6)
  (.seq (.reg []
    [⟨some 2, none, .mov, [.c (.int .u32 0)]⟩,
     ⟨some 3, none, .mov, [.c (.int .u32 0)]⟩])
  .ret)
  .skip))
  (.seq (.reg []
    [⟨some 7, none, .mov, [.t 0]⟩,
     ⟨some 8, none, .call 24, [.t 7]⟩,
     ⟨some 9, none, .ext 0, [.t 8]⟩,
     ⟨some 10, none, .ext 1, [.t 8]⟩,
     ⟨some 2, none, .mov, [.t 9]⟩,
     ⟨some 3, none, .mov, [.t 10]⟩])
  .ret))
theorem i9 : fnInfo Try.prog 9 = some (11, [2, 3], ac9) := by kernel_rfl
def ac10_1 : AC :=
  .seq (.seq (.reg []
    [⟨some 6, none, .mov, [.t 4]⟩,
     ⟨some 7, none, .mov, [.t 0]⟩,
     ⟨some 8, none, .lenL, [.t 7]⟩,
     ⟨some 9, none, .bin .lss .scal, [.t 6, .t 8]⟩])
  (.cond (.t 9)
  .skip
  (.exit 0)))
  (.seq (.block 1 (.reg [[], [], [], [1, 2], [3], [4], [], [], [6, 7], [8], [9], [], [], [11, 12], [13], [14], [], [], [16, 17], [18], [19], [5, 10, 15, 20], [21], [0, 22], [23, 23, 0, 1, 2, 3, 4, 5, 6, 7, 8, 9, 10, 11, 12, 13, 14, 15, 16, 17, 18, 19, 20, 21, 22, 23]]
    [⟨some 12, none, .mov, [.t 3]⟩,
     ⟨some 13, none, .mov, [.t 0]⟩,
     ⟨some 14, none, .mov, [.t 4]⟩,
     ⟨some 15, none, .idxA 4, [.t 13, .t 14]⟩,
     ⟨some 16, none, .fldA 0, [.t 15]⟩,
     ⟨some 17, none, .load none, [.t 16]⟩,
     ⟨some 18, none, .mov, [.t 0]⟩,
     ⟨some 19, none, .mov, [.t 4]⟩,
     ⟨some 20, none, .idxA 4, [.t 18, .t 19]⟩,
     ⟨some 21, none, .fldA 1, [.t 20]⟩,
     ⟨some 22, none, .load none, [.t 21]⟩,
     ⟨some 23, none, .mov, [.t 0]⟩,
     ⟨some 24, none, .mov, [.t 4]⟩,
     ⟨some 25, none, .idxA 4, [.t 23, .t 24]⟩,
     ⟨some 26, none, .fldA 2, [.t 25]⟩,
     ⟨some 27, none, .load none, [.t 26]⟩,
     ⟨some 28, none, .mov, [.t 0]⟩,
     ⟨some 29, none, .mov, [.t 4]⟩,
     ⟨some 30, none, .idxA 4, [.t 28, .t 29]⟩,
     ⟨some 31, none, .fldA 3, [.t 30]⟩,
     ⟨some 32, none, .load none, [.t 31]⟩,
     ⟨some 33, none, .build [.int .u32 0, .int .i64 0, .int .u32 0, .int .u32 0] [(0, 1), (1, 1), (2, 1), (3, 1)], [.t 17, .t 22, .t 27, .t 32]⟩,
     ⟨some 34, none, .bslice 4 45, [.t 33]⟩,
     ⟨some 35, none, .append 4 45 24, [.t 12, .t 34]⟩,
     ⟨some 3, none, .mov, [.t 35]⟩]))
  (.reg []
    [⟨some 10, none, .mov, [.t 4]⟩,
     ⟨some 11, none, .bin .add .scal, [.t 10, .c (.int .i64 1)]⟩,
     ⟨some 4, none, .mov, [.t 11]⟩]))
/-- "crossroads/crossroadslaw15.rows": 37 temporaries, 1 parameters, results some [2]. -/
def ac10 : AC :=
  .seq (.reg []
    [⟨some 2, none, .mov, [.c .nils]⟩])
  (.seq (.reg []
    [⟨some 5, none, .bslice 4 45, []⟩,
     ⟨some 3, none, .mov, [.t 5]⟩])
  (.seq (.seq (.reg []
    [⟨some 4, none, .mov, [.c (.int .i64 0)]⟩])
  (.block 0 (.loop ac10_1)))
  (.seq (.reg []
    [⟨some 36, none, .mov, [.t 3]⟩,
     ⟨some 2, none, .mov, [.t 36]⟩])
  .ret)))
theorem i10 : fnInfo Try.prog 10 = some (37, [2], ac10) := by kernel_rfl
/-- "crossroads/elect.Elect": 65 temporaries, 2 parameters, results some [4, 5]. -/
def ac11 : AC :=
  .seq (.reg []
    [⟨some 3, none, .box, [.t 1]⟩,
     ⟨some 4, none, .mov, [.c (.int .u32 0)]⟩,
     ⟨some 5, none, .mov, [.c (.int .u32 0)]⟩])
  (.seq (.seq (.reg []
    [⟨some 10, none, .mov, [.t 0]⟩,
     ⟨some 11, none, .call 22, [.t 10]⟩,
     ⟨some 12, none, .unNot, [.t 11]⟩])
  (.cond (.t 12)
  (.seq (.reg []
    [⟨some 4, none, .mov, [.c (.int .u32 0)]⟩,
     ⟨some 5, none, .mov, [.c (.int .u32 0)]⟩])
  .ret)
  .skip))
  (.seq (.reg []
    [⟨some 14, none, .mov, [.t 0]⟩,
     ⟨some 15, none, .call 23, [.t 14]⟩,
     ⟨some 13, none, .mov, [.t 15]⟩,
     ⟨some 16, none, .ext 0, [.t 13]⟩,
     ⟨some 17, none, .ext 1, [.t 13]⟩,
     ⟨some 6, none, .mov, [.t 16]⟩,
     ⟨some 7, none, .mov, [.t 17]⟩])
  (.seq (.reg []
    [⟨some 18, none, .mov, [.t 0]⟩,
     ⟨some 19, none, .mkfn 26 0, [.t 3]⟩,
     ⟨some 20, none, .call 25, [.t 18, .t 19]⟩,
     ⟨some 8, none, .mov, [.t 20]⟩])
  (.seq (.seq (.reg []
    [⟨some 21, none, .mov, [.t 8]⟩,
     ⟨some 22, none, .bin .lss .scal, [.t 21, .c (.int .i64 0)]⟩])
  (.cond (.t 22)
  (.seq (.reg []
    [⟨some 23, none, .mov, [.t 6]⟩,
     ⟨some 24, none, .mov, [.t 7]⟩,
     ⟨some 4, none, .mov, [.t 23]⟩,
     ⟨some 5, none, .mov, [.t 24]⟩])
  .ret)
  .skip))
  (.seq (.reg []
    [⟨some 25, none, .mov, [.t 0]⟩,
     ⟨some 26, none, .mov, [.t 8]⟩,
     ⟨some 27, none, .idxA 4, [.t 25, .t 26]⟩,
     ⟨some 28, none, .load (some 4), [.t 27]⟩,
     ⟨some 9, none, .alloc [.int .u32 0, .int .i64 0, .int .u32 0, .int .u32 0], []⟩,
     ⟨none, none, .store 4, [.t 9, .t 28]⟩])
  (.seq (.seq (.reg []
    [⟨some 29, none, .fldA 2, [.t 9]⟩,
     ⟨some 30, none, .load none, [.t 29]⟩,
     ⟨some 31, none, .load none, [.t 3]⟩,
     ⟨some 32, none, .bin .eql .scal, [.t 30, .t 31]⟩,
     ⟨some 33, none, .mov, [.t 6]⟩,
     ⟨some 34, none, .load none, [.t 3]⟩,
     ⟨some 35, none, .bin .eql .scal, [.t 33, .t 34]⟩,
     ⟨some 36, none, .bin .eql .bool, [.t 32, .t 35]⟩,
     ⟨some 37, none, .mov, [.t 36]⟩,
     ⟨some 38, some (37, true), .fldA 3, [.t 9]⟩,
     ⟨some 39, some (37, true), .load none, [.t 38]⟩,
     ⟨some 40, some (37, true), .load none, [.t 3]⟩,
     ⟨some 41, some (37, true), .bin .eql .scal, [.t 39, .t 40]⟩,
     ⟨some 42, some (37, true), .mov, [.t 7]⟩,
     ⟨some 43, some (37, true), .load none, [.t 3]⟩,
     ⟨some 44, some (37, true), .bin .eql .scal, [.t 42, .t 43]⟩,
     ⟨some 45, some (37, true), .bin .eql .bool, [.t 41, .t 44]⟩,
     ⟨some 46, none, .pick, [.t 37, .t 45, .c (.bool false)]⟩])
  (.cond (.t 46)
  (.seq (.reg []
    [⟨some 47, none, .mov, [.t 6]⟩,
     ⟨some 48, none, .mov, [.t 7]⟩,
     ⟨some 4, none, .mov, [.t 47]⟩,
     ⟨some 5, none, .mov, [.t 48]⟩])
  .ret)
  .skip))
  (.seq (.reg []
    [⟨some 49, none, .mov, [.t 0]⟩,
     ⟨some 50, none, .call 27, [.t 49]⟩,
     ⟨some 0, none, .mov, [.t 50]⟩])
  (.seq (.reg []
    [⟨some 51, none, .mov, [.t 0]⟩,
     ⟨some 52, none, .mov, [.t 8]⟩,
     ⟨some 53, none, .mov, [.t 0]⟩,
     ⟨some 54, none, .mov, [.t 8]⟩,
     ⟨some 55, none, .mov, [.t 6]⟩,
     ⟨some 56, none, .mov, [.t 7]⟩,
     ⟨some 57, none, .idxA 4, [.t 51, .t 52]⟩,
     ⟨some 58, none, .fldA 2, [.t 57]⟩,
     ⟨none, none, .store 1, [.t 58, .t 55]⟩,
     ⟨some 59, none, .idxA 4, [.t 53, .t 54]⟩,
     ⟨some 60, none, .fldA 3, [.t 59]⟩,
     ⟨none, none, .store 1, [.t 60, .t 56]⟩])
  (.seq (.reg []
    [⟨some 61, none, .mov, [.t 0]⟩,
     ⟨some 62, none, .call 23, [.t 61]⟩,
     ⟨some 63, none, .ext 0, [.t 62]⟩,
     ⟨some 64, none, .ext 1, [.t 62]⟩,
     ⟨some 4, none, .mov, [.t 63]⟩,
     ⟨some 5, none, .mov, [.t 64]⟩])
  .ret)))))))))
theorem i11 : fnInfo Try.prog 11 = some (65, [4, 5], ac11) := by kernel_rfl
def ac12_1 : AC :=
  .seq (.seq (.reg []
    [⟨some 22, none, .mov, [.t 9]⟩,
     ⟨some 23, none, .mov, [.t 8]⟩,
     ⟨some 24, none, .lenL, [.t 23]⟩,
     ⟨some 25, none, .bin .lss .scal, [.t 22, .t 24]⟩])
  (.cond (.t 25)
  .skip
  (.exit 0)))
  (.seq (.block 1 (.seq (.reg []
    [⟨some 28, none, .mov, [.t 8]⟩,
     ⟨some 29, none, .mov, [.t 9]⟩,
     ⟨some 30, none, .idxA 4, [.t 28, .t 29]⟩,
     ⟨some 31, none, .load (some 4), [.t 30]⟩,
     ⟨some 10, none, .alloc [.int .u32 0, .int .i64 0, .int .u32 0, .int .u32 0], []⟩,
     ⟨none, none, .store 4, [.t 10, .t 31]⟩])
  (.seq (.seq (.reg []
    [⟨some 32, none, .fldA 0, [.t 10]⟩,
     ⟨some 33, none, .load none, [.t 32]⟩,
     ⟨some 34, none, .mov, [.t 1]⟩,
     ⟨some 35, none, .bin .neq .scal, [.t 33, .t 34]⟩])
  (.cond (.t 35)
  (.exit 1)
  .skip))
  (.seq (.reg []
    [⟨some 36, none, .fldA 2, [.t 10]⟩,
     ⟨some 37, none, .load none, [.t 36]⟩,
     ⟨some 38, none, .mov, [.t 1]⟩,
     ⟨some 39, none, .bin .eql .scal, [.t 37, .t 38]⟩,
     ⟨some 40, none, .mov, [.t 6]⟩,
     ⟨some 41, none, .mov, [.t 1]⟩,
     ⟨some 42, none, .bin .eql .scal, [.t 40, .t 41]⟩,
     ⟨some 43, none, .bin .neq .bool, [.t 39, .t 42]⟩,
     ⟨some 44, none, .mov, [.t 43]⟩,
     ⟨some 45, some (44, false), .fldA 3, [.t 10]⟩,
     ⟨some 46, some (44, false), .load none, [.t 45]⟩,
     ⟨some 47, some (44, false), .mov, [.t 1]⟩,
     ⟨some 48, some (44, false), .bin .eql .scal, [.t 46, .t 47]⟩,
     ⟨some 49, some (44, false), .mov, [.t 7]⟩,
     ⟨some 50, some (44, false), .mov, [.t 1]⟩,
     ⟨some 51, some (44, false), .bin .eql .scal, [.t 49, .t 50]⟩,
     ⟨some 52, some (44, false), .bin .neq .bool, [.t 48, .t 51]⟩,
     ⟨some 53, none, .pick, [.t 44, .c (.bool true), .t 52]⟩])
  (.cond (.t 53)
  (.seq (.reg []
    [⟨some 54, none, .mov, [.t 8]⟩,
     ⟨some 55, none, .mov, [.t 9]⟩,
     ⟨some 56, none, .mov, [.t 6]⟩,
     ⟨some 57, none, .idxA 4, [.t 54, .t 55]⟩,
     ⟨some 58, none, .fldA 2, [.t 57]⟩,
     ⟨none, none, .store 1, [.t 58, .t 56]⟩])
  (.seq (.reg []
    [⟨some 59, none, .mov, [.t 8]⟩,
     ⟨some 60, none, .mov, [.t 9]⟩,
     ⟨some 61, none, .mov, [.t 7]⟩,
     ⟨some 62, none, .idxA 4, [.t 59, .t 60]⟩,
     ⟨some 63, none, .fldA 3, [.t 62]⟩,
     ⟨none, none, .store 1, [.t 63, .t 61]⟩])
  (.seq (.reg []
    [⟨some 64, none, .mov, [.t 8]⟩,
     ⟨some 65, none, .call 24, [.t 64]⟩,
     ⟨some 66, none, .ext 0, [.t 65]⟩,
     ⟨some 67, none, .ext 1, [.t 65]⟩,
     ⟨some 4, none, .mov, [.t 66]⟩,
     ⟨some 5, none, .mov, [.t 67]⟩])
  .ret)))
  .skip)))))
  (.reg []
    [⟨some 26, none, .mov, [.t 9]⟩,
     ⟨some 27, none, .bin .add .scal, [.t 26, .c (.int .i64 1)]⟩,
     ⟨some 9, none, .mov, [.t 27]⟩]))
/-- "crossroads/crossroadsref15.Elect": 70 temporaries, 2 parameters, results some [4, 5]. -/
def ac12 : AC :=
  .seq (.reg []
    [⟨some 4, none, .mov, [.c (.int .u32 0)]⟩,
     ⟨some 5, none, .mov, [.c (.int .u32 0)]⟩])
  (.seq (.seq (.reg []
    [⟨some 11, none, .mov, [.t 0]⟩,
     ⟨some 12, none, .call 17, [.t 11]⟩,
     ⟨some 13, none, .unNot, [.t 12]⟩])
  (.cond (.t 13)
  (.seq (.reg []
    [⟨some 4, none, .mov, [.c (.int .u32 0)]⟩,
     ⟨some 5, none, .mov, [.c (.int .u32 0)]⟩])
  .ret)
  .skip))
  (.seq (.reg []
    [⟨some 15, none, .mov, [.t 0]⟩,
     ⟨some 16, none, .call 24, [.t 15]⟩,
     ⟨some 14, none, .mov, [.t 16]⟩,
     ⟨some 17, none, .ext 0, [.t 14]⟩,
     ⟨some 18, none, .ext 1, [.t 14]⟩,
     ⟨some 6, none, .mov, [.t 17]⟩,
     ⟨some 7, none, .mov, [.t 18]⟩])
  (.seq (.reg []
    [⟨some 19, none, .bslice 4 45, []⟩,
     ⟨some 20, none, .mov, [.t 0]⟩,
     ⟨some 21, none, .append 4 45 24, [.t 19, .t 20]⟩,
     ⟨some 8, none, .mov, [.t 21]⟩])
  (.seq (.seq (.reg []
    [⟨some 9, none, .mov, [.c (.int .i64 0)]⟩])
  (.block 0 (.loop ac12_1)))
  (.seq (.reg []
    [⟨some 68, none, .mov, [.t 6]⟩,
     ⟨some 69, none, .mov, [.t 7]⟩,
     ⟨some 4, none, .mov, [.t 68]⟩,
     ⟨some 5, none, .mov, [.t 69]⟩])
  .ret)))))
theorem i12 : fnInfo Try.prog 12 = some (70, [4, 5], ac12) := by kernel_rfl
/-- "crossroads/crossroadsref15.Speaker": 8 temporaries, 1 parameters, results some [2]. -/
def ac13 : AC :=
  .seq (.reg []
    [⟨some 2, none, .mov, [.c (.int .u32 0)]⟩])
  (.seq (.seq (.reg []
    [⟨some 3, none, .mov, [.t 0]⟩,
     ⟨some 4, none, .call 17, [.t 3]⟩,
     ⟨some 5, none, .unNot, [.t 4]⟩])
  (.cond (.t 5)
  (.seq (.reg []
    [⟨some 2, none, .mov, [.c (.int .u32 0)]⟩])
  .ret)
  .skip))
  (.seq (.reg []
    [⟨some 6, none, .mov, [.t 0]⟩,
     ⟨some 7, none, .call 28, [.t 6]⟩,
     ⟨some 2, none, .mov, [.t 7]⟩])
  .ret))
theorem i13 : fnInfo Try.prog 13 = some (8, [2], ac13) := by kernel_rfl
/-- "crossroads/elect.Speaker": 8 temporaries, 1 parameters, results some [2]. -/
def ac14 : AC :=
  .seq (.reg []
    [⟨some 2, none, .mov, [.c (.int .u32 0)]⟩])
  (.seq (.seq (.reg []
    [⟨some 3, none, .mov, [.t 0]⟩,
     ⟨some 4, none, .call 22, [.t 3]⟩,
     ⟨some 5, none, .unNot, [.t 4]⟩])
  (.cond (.t 5)
  (.seq (.reg []
    [⟨some 2, none, .mov, [.c (.int .u32 0)]⟩])
  .ret)
  .skip))
  (.seq (.reg []
    [⟨some 6, none, .mov, [.t 0]⟩,
     ⟨some 7, none, .call 29, [.t 6, .f 30]⟩,
     ⟨some 2, none, .mov, [.t 7]⟩])
  .ret))
theorem i14 : fnInfo Try.prog 14 = some (8, [2], ac14) := by kernel_rfl
/-- "crossroads/elect.Wins": 13 temporaries, 2 parameters, results some [4]. -/
def ac15 : AC :=
  .seq (.reg []
    [⟨some 4, none, .mov, [.c (.bool false)]⟩])
  (.seq (.reg []
    [⟨some 5, none, .mov, [.t 1]⟩,
     ⟨some 6, none, .bin .neq .scal, [.t 5, .c (.int .u32 0)]⟩,
     ⟨some 7, none, .mov, [.t 6]⟩,
     ⟨some 8, some (7, true), .mov, [.t 0]⟩,
     ⟨some 9, some (7, true), .call 14, [.t 8]⟩,
     ⟨some 10, some (7, true), .mov, [.t 1]⟩,
     ⟨some 11, some (7, true), .bin .eql .scal, [.t 9, .t 10]⟩,
     ⟨some 12, none, .pick, [.t 7, .t 11, .c (.bool false)]⟩,
     ⟨some 4, none, .mov, [.t 12]⟩])
  .ret)
theorem i15 : fnInfo Try.prog 15 = some (13, [4], ac15) := by kernel_rfl
def ac16_1 : AC :=
  .seq (.seq (.reg []
    [⟨some 11, none, .mov, [.t 5]⟩,
     ⟨some 12, none, .mov, [.t 0]⟩,
     ⟨some 13, none, .lenL, [.t 12]⟩,
     ⟨some 14, none, .bin .lss .scal, [.t 11, .t 13]⟩])
  (.cond (.t 14)
  .skip
  (.exit 0)))
  (.seq (.block 1 (.seq (.reg [[], [], [0, 1], [2], [], [], [4, 5], [6], [3, 7]]
    [⟨some 17, none, .mov, [.t 0]⟩,
     ⟨some 18, none, .mov, [.t 5]⟩,
     ⟨some 19, none, .idxA 4, [.t 17, .t 18]⟩,
     ⟨some 20, none, .load (some 4), [.t 19]⟩,
     ⟨some 21, none, .mov, [.t 1]⟩,
     ⟨some 22, none, .mov, [.t 5]⟩,
     ⟨some 23, none, .idxA 4, [.t 21, .t 22]⟩,
     ⟨some 24, none, .load (some 4), [.t 23]⟩,
     ⟨some 25, none, .bin .neq (.flat [.int .u32, .int .i64, .int .u32, .int .u32]), [.t 20, .t 24]⟩])
  (.cond (.t 25)
  (.seq (.reg []
    [⟨some 4, none, .mov, [.c (.bool false)]⟩])
  .ret)
  .skip)))
  (.reg []
    [⟨some 15, none, .mov, [.t 5]⟩,
     ⟨some 16, none, .bin .add .scal, [.t 15, .c (.int .i64 1)]⟩,
     ⟨some 5, none, .mov, [.t 16]⟩]))
/-- "crossroads/crossroadslaw15.same": 26 temporaries, 2 parameters, results some [4]. -/
def ac16 : AC :=
  .seq (.reg []
    [⟨some 4, none, .mov, [.c (.bool false)]⟩])
  (.seq (.seq (.reg []
    [⟨some 6, none, .mov, [.t 0]⟩,
     ⟨some 7, none, .lenL, [.t 6]⟩,
     ⟨some 8, none, .mov, [.t 1]⟩,
     ⟨some 9, none, .lenL, [.t 8]⟩,
     ⟨some 10, none, .bin .neq .scal, [.t 7, .t 9]⟩])
  (.cond (.t 10)
  (.seq (.reg []
    [⟨some 4, none, .mov, [.c (.bool false)]⟩])
  .ret)
  .skip))
  (.seq (.seq (.reg []
    [⟨some 5, none, .mov, [.c (.int .i64 0)]⟩])
  (.block 0 (.loop ac16_1)))
  (.seq (.reg []
    [⟨some 4, none, .mov, [.c (.bool true)]⟩])
  .ret)))
theorem i16 : fnInfo Try.prog 16 = some (26, [4], ac16) := by kernel_rfl
def ac17_1 : AC :=
  .seq (.seq (.reg []
    [⟨some 36, none, .mov, [.t 4]⟩,
     ⟨some 37, none, .mov, [.t 3]⟩,
     ⟨some 38, none, .bin .lss .scal, [.t 36, .t 37]⟩])
  (.cond (.t 38)
  .skip
  (.exit 2)))
  (.seq (.block 3 (.seq (.reg [[], [], [0, 1], [2], [3], [], [], [5, 6], [7], [8], [4, 9]]
    [⟨some 41, none, .mov, [.t 0]⟩,
     ⟨some 42, none, .mov, [.t 4]⟩,
     ⟨some 43, none, .idxA 4, [.t 41, .t 42]⟩,
     ⟨some 44, none, .fldA 0, [.t 43]⟩,
     ⟨some 45, none, .load none, [.t 44]⟩,
     ⟨some 46, none, .mov, [.t 0]⟩,
     ⟨some 47, none, .mov, [.t 3]⟩,
     ⟨some 48, none, .idxA 4, [.t 46, .t 47]⟩,
     ⟨some 49, none, .fldA 0, [.t 48]⟩,
     ⟨some 50, none, .load none, [.t 49]⟩,
     ⟨some 51, none, .bin .eql .scal, [.t 45, .t 50]⟩])
  (.cond (.t 51)
  (.seq (.reg []
    [⟨some 2, none, .mov, [.c (.bool false)]⟩])
  .ret)
  .skip)))
  (.reg []
    [⟨some 39, none, .mov, [.t 4]⟩,
     ⟨some 40, none, .bin .add .scal, [.t 39, .c (.int .i64 1)]⟩,
     ⟨some 4, none, .mov, [.t 40]⟩]))
def ac17_2 : AC :=
  .seq (.seq (.reg []
    [⟨some 8, none, .mov, [.t 3]⟩,
     ⟨some 9, none, .mov, [.t 0]⟩,
     ⟨some 10, none, .lenL, [.t 9]⟩,
     ⟨some 11, none, .bin .lss .scal, [.t 8, .t 10]⟩])
  (.cond (.t 11)
  .skip
  (.exit 0)))
  (.seq (.block 1 (.seq (.seq (.reg []
    [⟨some 14, none, .mov, [.t 0]⟩,
     ⟨some 15, none, .mov, [.t 3]⟩,
     ⟨some 16, none, .idxA 4, [.t 14, .t 15]⟩,
     ⟨some 17, none, .fldA 0, [.t 16]⟩,
     ⟨some 18, none, .load none, [.t 17]⟩,
     ⟨some 19, none, .bin .eql .scal, [.t 18, .c (.int .u32 0)]⟩,
     ⟨some 20, none, .mov, [.t 19]⟩,
     ⟨some 21, some (20, false), .mov, [.t 0]⟩,
     ⟨some 22, some (20, false), .mov, [.t 3]⟩,
     ⟨some 23, some (20, false), .idxA 4, [.t 21, .t 22]⟩,
     ⟨some 24, some (20, false), .fldA 1, [.t 23]⟩,
     ⟨some 25, some (20, false), .load none, [.t 24]⟩,
     ⟨some 26, some (20, false), .bin .lss .scal, [.t 25, .c (.int .i64 0)]⟩,
     ⟨some 27, none, .pick, [.t 20, .c (.bool true), .t 26]⟩,
     ⟨some 28, none, .mov, [.t 27]⟩,
     ⟨some 29, some (28, false), .mov, [.t 0]⟩,
     ⟨some 30, some (28, false), .mov, [.t 3]⟩,
     ⟨some 31, some (28, false), .idxA 4, [.t 29, .t 30]⟩,
     ⟨some 32, some (28, false), .fldA 1, [.t 31]⟩,
     ⟨some 33, some (28, false), .load none, [.t 32]⟩,
     ⟨some 34, some (28, false), .bin .gtr .scal, [.t 33, .c (.int .i64 255)]⟩,
     ⟨some 35, none, .pick, [.t 28, .c (.bool true), .t 34]⟩])
  (.cond (.t 35)
  (.seq (.reg []
    [⟨some 2, none, .mov, [.c (.bool false)]⟩])
  .ret)
  .skip))
  (.seq (.reg []
    [⟨some 4, none, .mov, [.c (.int .i64 0)]⟩])
  (.block 2 (.loop ac17_1)))))
  (.reg []
    [⟨some 12, none, .mov, [.t 3]⟩,
     ⟨some 13, none, .bin .add .scal, [.t 12, .c (.int .i64 1)]⟩,
     ⟨some 3, none, .mov, [.t 13]⟩]))
/-- "crossroads/crossroadsref15.May": 52 temporaries, 1 parameters, results some [2]. -/
def ac17 : AC :=
  .seq (.reg []
    [⟨some 2, none, .mov, [.c (.bool false)]⟩])
  (.seq (.seq (.reg []
    [⟨some 5, none, .mov, [.t 0]⟩,
     ⟨some 6, none, .lenL, [.t 5]⟩,
     ⟨some 7, none, .bin .gtr .scal, [.t 6, .c (.int .i64 50)]⟩])
  (.cond (.t 7)
  (.seq (.reg []
    [⟨some 2, none, .mov, [.c (.bool false)]⟩])
  .ret)
  .skip))
  (.seq (.seq (.reg []
    [⟨some 3, none, .mov, [.c (.int .i64 0)]⟩])
  (.block 0 (.loop ac17_2)))
  (.seq (.reg []
    [⟨some 2, none, .mov, [.c (.bool true)]⟩])
  .ret)))
theorem i17 : fnInfo Try.prog 17 = some (52, [2], ac17) := by kernel_rfl
def ac18_1 : AC :=
  .seq (.seq (.reg []
    [⟨some 6, none, .mov, [.t 5]⟩,
     ⟨some 7, none, .mov, [.t 0]⟩,
     ⟨some 8, none, .lenL, [.t 7]⟩,
     ⟨some 9, none, .bin .lss .scal, [.t 6, .t 8]⟩])
  (.cond (.t 9)
  .skip
  (.exit 0)))
  (.seq (.block 1 (.seq (.reg []
    [⟨some 12, none, .mov, [.t 0]⟩,
     ⟨some 13, none, .mov, [.t 5]⟩,
     ⟨some 14, none, .idxA 4, [.t 12, .t 13]⟩,
     ⟨some 15, none, .fldA 0, [.t 14]⟩,
     ⟨some 16, none, .load none, [.t 15]⟩,
     ⟨some 17, none, .mov, [.t 1]⟩,
     ⟨some 18, none, .bin .eql .scal, [.t 16, .t 17]⟩,
     ⟨some 19, none, .mov, [.t 18]⟩,
     ⟨some 20, some (19, true), .mov, [.t 0]⟩,
     ⟨some 21, some (19, true), .mov, [.t 5]⟩,
     ⟨some 22, some (19, true), .idxA 4, [.t 20, .t 21]⟩,
     ⟨some 23, some (19, true), .fldA 1, [.t 22]⟩,
     ⟨some 24, some (19, true), .load none, [.t 23]⟩,
     ⟨some 25, some (19, true), .bin .gtr .scal, [.t 24, .c (.int .i64 0)]⟩,
     ⟨some 26, none, .pick, [.t 19, .t 25, .c (.bool false)]⟩])
  (.cond (.t 26)
  (.seq (.reg []
    [⟨some 4, none, .mov, [.c (.bool true)]⟩])
  .ret)
  .skip)))
  (.reg []
    [⟨some 10, none, .mov, [.t 5]⟩,
     ⟨some 11, none, .bin .add .scal, [.t 10, .c (.int .i64 1)]⟩,
     ⟨some 5, none, .mov, [.t 11]⟩]))
/-- "crossroads/crossroadslaw15.has": 27 temporaries, 2 parameters, results some [4]. -/
def ac18 : AC :=
  .seq (.reg []
    [⟨some 4, none, .mov, [.c (.bool false)]⟩])
  (.seq (.seq (.reg []
    [⟨some 5, none, .mov, [.c (.int .i64 0)]⟩])
  (.block 0 (.loop ac18_1)))
  (.seq (.reg []
    [⟨some 4, none, .mov, [.c (.bool false)]⟩])
  .ret))
theorem i18 : fnInfo Try.prog 18 = some (27, [4], ac18) := by kernel_rfl
def ac19_1 : AC :=
  .seq (.reg []
    [⟨some 12, none, .bin .lss .scal, [.t 11, .t 10]⟩])
  (.seq (.cond (.t 12)
  .skip
  (.exit 0))
  (.seq (.block 1 (.seq (.reg []
    [⟨some 13, none, .idxA 4, [.t 9, .t 11]⟩,
     ⟨some 14, none, .load (some 4), [.t 13]⟩,
     ⟨some 5, none, .alloc [.int .u32 0, .int .i64 0, .int .u32 0, .int .u32 0], []⟩,
     ⟨none, none, .store 4, [.t 5, .t 14]⟩])
  (.seq (.reg []
    [⟨some 16, none, .mov, [.t 0]⟩,
     ⟨some 17, none, .fldA 0, [.t 5]⟩,
     ⟨some 18, none, .load none, [.t 17]⟩,
     ⟨some 19, none, .call 11, [.t 16, .t 18]⟩,
     ⟨some 15, none, .mov, [.t 19]⟩,
     ⟨some 20, none, .ext 0, [.t 15]⟩,
     ⟨some 21, none, .ext 1, [.t 15]⟩,
     ⟨some 22, none, .fldA 2, [.t 5]⟩,
     ⟨none, none, .store 1, [.t 22, .t 20]⟩,
     ⟨some 23, none, .fldA 3, [.t 5]⟩,
     ⟨none, none, .store 1, [.t 23, .t 21]⟩])
  (.reg []
    [⟨some 24, none, .mov, [.t 3]⟩,
     ⟨some 25, none, .load (some 4), [.t 5]⟩,
     ⟨some 26, none, .bslice 4 38, [.t 25]⟩,
     ⟨some 27, none, .append 4 38 24, [.t 24, .t 26]⟩,
     ⟨some 3, none, .mov, [.t 27]⟩]))))
  (.reg []
    [⟨some 28, none, .bin .add .scal, [.t 11, .c (.int .i64 1)]⟩,
     ⟨some 11, none, .mov, [.t 28]⟩])))
/-- "crossroads/elect.Settle": 30 temporaries, 1 parameters, results some [2]. -/
def ac19 : AC :=
  .seq (.reg []
    [⟨some 2, none, .mov, [.c .nils]⟩])
  (.seq (.seq (.reg []
    [⟨some 6, none, .mov, [.t 0]⟩,
     ⟨some 7, none, .call 22, [.t 6]⟩,
     ⟨some 8, none, .unNot, [.t 7]⟩])
  (.cond (.t 8)
  (.seq (.reg []
    [⟨some 2, none, .mov, [.c .nils]⟩])
  .ret)
  .skip))
  (.seq (.reg []
    [⟨some 3, none, .mov, [.c .nils]⟩])
  (.seq (.seq (.reg []
    [⟨some 9, none, .mov, [.t 0]⟩,
     ⟨some 10, none, .lenL, [.t 9]⟩,
     ⟨some 11, none, .mov, [.c (.int .i64 0)]⟩])
  (.block 0 (.loop ac19_1)))
  (.seq (.reg []
    [⟨some 29, none, .mov, [.t 3]⟩,
     ⟨some 2, none, .mov, [.t 29]⟩])
  .ret))))
theorem i19 : fnInfo Try.prog 19 = some (30, [2], ac19) := by kernel_rfl
def ac20_1 : AC :=
  .seq (.seq (.reg []
    [⟨some 13, none, .mov, [.t 4]⟩,
     ⟨some 14, none, .mov, [.t 0]⟩,
     ⟨some 15, none, .lenL, [.t 14]⟩,
     ⟨some 16, none, .bin .lss .scal, [.t 13, .t 15]⟩])
  (.cond (.t 16)
  .skip
  (.exit 0)))
  (.seq (.block 1 (.seq (.reg []
    [⟨some 19, none, .mov, [.t 0]⟩,
     ⟨some 20, none, .mov, [.t 4]⟩,
     ⟨some 21, none, .idxA 4, [.t 19, .t 20]⟩,
     ⟨some 22, none, .load (some 4), [.t 21]⟩,
     ⟨some 5, none, .alloc [.int .u32 0, .int .i64 0, .int .u32 0, .int .u32 0], []⟩,
     ⟨none, none, .store 4, [.t 5, .t 22]⟩])
  (.seq (.reg []
    [⟨some 24, none, .mov, [.t 0]⟩,
     ⟨some 25, none, .fldA 0, [.t 5]⟩,
     ⟨some 26, none, .load none, [.t 25]⟩,
     ⟨some 27, none, .call 12, [.t 24, .t 26]⟩,
     ⟨some 23, none, .mov, [.t 27]⟩,
     ⟨some 28, none, .ext 0, [.t 23]⟩,
     ⟨some 29, none, .ext 1, [.t 23]⟩,
     ⟨some 6, none, .mov, [.t 28]⟩,
     ⟨some 7, none, .mov, [.t 29]⟩])
  (.seq (.reg []
    [⟨some 30, none, .mov, [.t 6]⟩,
     ⟨some 31, none, .fldA 2, [.t 5]⟩,
     ⟨none, none, .store 1, [.t 31, .t 30]⟩])
  (.seq (.reg []
    [⟨some 32, none, .mov, [.t 7]⟩,
     ⟨some 33, none, .fldA 3, [.t 5]⟩,
     ⟨none, none, .store 1, [.t 33, .t 32]⟩])
  (.reg []
    [⟨some 34, none, .mov, [.t 3]⟩,
     ⟨some 35, none, .load (some 4), [.t 5]⟩,
     ⟨some 36, none, .bslice 4 45, [.t 35]⟩,
     ⟨some 37, none, .append 4 45 24, [.t 34, .t 36]⟩,
     ⟨some 3, none, .mov, [.t 37]⟩]))))))
  (.reg []
    [⟨some 17, none, .mov, [.t 4]⟩,
     ⟨some 18, none, .bin .add .scal, [.t 17, .c (.int .i64 1)]⟩,
     ⟨some 4, none, .mov, [.t 18]⟩]))
/-- "crossroads/crossroadsref15.Settle": 39 temporaries, 1 parameters, results some [2]. -/
def ac20 : AC :=
  .seq (.reg []
    [⟨some 2, none, .mov, [.c .nils]⟩])
  (.seq (.reg []
    [⟨some 8, none, .bslice 4 45, []⟩,
     ⟨some 3, none, .mov, [.t 8]⟩])
  (.seq (.seq (.reg []
    [⟨some 9, none, .mov, [.t 0]⟩,
     ⟨some 10, none, .call 17, [.t 9]⟩,
     ⟨some 11, none, .unNot, [.t 10]⟩])
  (.cond (.t 11)
  (.seq (.reg []
    [⟨some 12, none, .mov, [.t 3]⟩,
     ⟨some 2, none, .mov, [.t 12]⟩])
  .ret)
  .skip))
  (.seq (.seq (.reg []
    [⟨some 4, none, .mov, [.c (.int .i64 0)]⟩])
  (.block 0 (.loop ac20_1)))
  (.seq (.reg []
    [⟨some 38, none, .mov, [.t 3]⟩,
     ⟨some 2, none, .mov, [.t 38]⟩])
  .ret))))
theorem i20 : fnInfo Try.prog 20 = some (39, [2], ac20) := by kernel_rfl
def ac21_1 : AC :=
  .seq (.seq (.reg []
    [⟨some 11, none, .mov, [.t 8]⟩,
     ⟨some 12, none, .mov, [.t 0]⟩,
     ⟨some 13, none, .lenL, [.t 12]⟩,
     ⟨some 14, none, .bin .lss .scal, [.t 11, .t 13]⟩])
  (.cond (.t 14)
  .skip
  (.exit 0)))
  (.seq (.block 1 (.seq (.reg []
    [⟨some 17, none, .mov, [.t 0]⟩,
     ⟨some 18, none, .mov, [.t 8]⟩,
     ⟨some 19, none, .idxA 4, [.t 17, .t 18]⟩,
     ⟨some 20, none, .load (some 4), [.t 19]⟩,
     ⟨some 9, none, .alloc [.int .u32 0, .int .i64 0, .int .u32 0, .int .u32 0], []⟩,
     ⟨none, none, .store 4, [.t 9, .t 20]⟩])
  (.seq (.reg []
    [⟨some 21, none, .mov, [.t 1]⟩,
     ⟨some 22, none, .fldA 2, [.t 9]⟩,
     ⟨none, none, .store 1, [.t 22, .t 21]⟩])
  (.seq (.reg []
    [⟨some 23, none, .mov, [.t 2]⟩,
     ⟨some 24, none, .fldA 3, [.t 9]⟩,
     ⟨none, none, .store 1, [.t 24, .t 23]⟩])
  (.reg []
    [⟨some 25, none, .mov, [.t 7]⟩,
     ⟨some 26, none, .load (some 4), [.t 9]⟩,
     ⟨some 27, none, .bslice 4 38, [.t 26]⟩,
     ⟨some 28, none, .append 4 38 24, [.t 25, .t 27]⟩,
     ⟨some 7, none, .mov, [.t 28]⟩])))))
  (.reg []
    [⟨some 15, none, .mov, [.t 8]⟩,
     ⟨some 16, none, .bin .add .scal, [.t 15, .c (.int .i64 1)]⟩,
     ⟨some 8, none, .mov, [.t 16]⟩]))
/-- "crossroads/crossroadslaw15.stand": 30 temporaries, 3 parameters, results some [6]. -/
def ac21 : AC :=
  .seq (.reg []
    [⟨some 6, none, .mov, [.c .nils]⟩])
  (.seq (.reg []
    [⟨some 10, none, .bslice 4 38, []⟩,
     ⟨some 7, none, .mov, [.t 10]⟩])
  (.seq (.seq (.reg []
    [⟨some 8, none, .mov, [.c (.int .i64 0)]⟩])
  (.block 0 (.loop ac21_1)))
  (.seq (.reg []
    [⟨some 29, none, .mov, [.t 7]⟩,
     ⟨some 6, none, .mov, [.t 29]⟩])
  .ret)))
theorem i21 : fnInfo Try.prog 21 = some (30, [6], ac21) := by kernel_rfl
def ac22_1 : AC :=
  .seq (.reg []
    [⟨some 10, none, .bin .lss .scal, [.t 9, .t 8]⟩])
  (.seq (.cond (.t 10)
  .skip
  (.exit 0))
  (.seq (.block 1 (.seq (.reg []
    [⟨some 11, none, .idxA 4, [.t 7, .t 9]⟩,
     ⟨some 12, none, .load (some 4), [.t 11]⟩,
     ⟨some 5, none, .alloc [.int .u32 0, .int .i64 0, .int .u32 0, .int .u32 0], []⟩,
     ⟨none, none, .store 4, [.t 5, .t 12]⟩])
  (.seq (.seq (.reg []
    [⟨some 13, none, .fldA 0, [.t 5]⟩,
     ⟨some 14, none, .load none, [.t 13]⟩,
     ⟨some 15, none, .bin .eql .scal, [.t 14, .c (.int .u32 0)]⟩,
     ⟨some 16, none, .mov, [.t 15]⟩,
     ⟨some 17, some (16, false), .fldA 1, [.t 5]⟩,
     ⟨some 18, some (16, false), .load none, [.t 17]⟩,
     ⟨some 19, some (16, false), .bin .lss .scal, [.t 18, .c (.int .i64 0)]⟩,
     ⟨some 20, none, .pick, [.t 16, .c (.bool true), .t 19]⟩,
     ⟨some 21, none, .mov, [.t 20]⟩,
     ⟨some 22, some (21, false), .fldA 1, [.t 5]⟩,
     ⟨some 23, some (21, false), .load none, [.t 22]⟩,
     ⟨some 24, some (21, false), .bin .gtr .scal, [.t 23, .c (.int .i64 255)]⟩,
     ⟨some 25, none, .pick, [.t 21, .c (.bool true), .t 24]⟩])
  (.cond (.t 25)
  (.seq (.reg []
    [⟨some 2, none, .mov, [.c (.bool false)]⟩])
  .ret)
  .skip))
  (.reg []
    [⟨some 26, none, .mov, [.t 3]⟩,
     ⟨some 27, none, .fldA 0, [.t 5]⟩,
     ⟨some 28, none, .load none, [.t 27]⟩,
     ⟨some 29, none, .lookup (.int .i64 0) false (.int .u32), [.t 26, .t 28]⟩,
     ⟨some 30, none, .bin .add .scal, [.t 29, .c (.int .i64 1)]⟩,
     ⟨none, none, .mapset (.int .u32), [.t 26, .t 28, .t 30]⟩]))))
  (.reg []
    [⟨some 31, none, .bin .add .scal, [.t 9, .c (.int .i64 1)]⟩,
     ⟨some 9, none, .mov, [.t 31]⟩])))
/-- "crossroads/elect.may": 42 temporaries, 1 parameters, results some [2]. -/
def ac22 : AC :=
  .seq (.reg []
    [⟨some 2, none, .mov, [.c (.bool false)]⟩])
  (.seq (.reg []
    [⟨some 6, none, .mkmap, []⟩,
     ⟨some 3, none, .mov, [.t 6]⟩])
  (.seq (.seq (.reg []
    [⟨some 7, none, .mov, [.t 0]⟩,
     ⟨some 8, none, .lenL, [.t 7]⟩,
     ⟨some 9, none, .mov, [.c (.int .i64 0)]⟩])
  (.block 0 (.loop ac22_1)))
  (.seq (.reg []
    [⟨some 32, none, .mov, [.t 0]⟩,
     ⟨some 33, none, .lenL, [.t 32]⟩,
     ⟨some 34, none, .bin .leq .scal, [.t 33, .c (.int .i64 50)]⟩,
     ⟨some 35, none, .mov, [.t 34]⟩,
     ⟨some 36, some (35, true), .mov, [.t 3]⟩,
     ⟨some 37, some (35, true), .lenM, [.t 36]⟩,
     ⟨some 38, some (35, true), .mov, [.t 0]⟩,
     ⟨some 39, some (35, true), .lenL, [.t 38]⟩,
     ⟨some 40, some (35, true), .bin .eql .scal, [.t 37, .t 39]⟩,
     ⟨some 41, none, .pick, [.t 35, .t 40, .c (.bool false)]⟩,
     ⟨some 2, none, .mov, [.t 41]⟩])
  .ret)))
theorem i22 : fnInfo Try.prog 22 = some (42, [2], ac22) := by kernel_rfl
/-- "crossroads/elect.turn": 19 temporaries, 1 parameters, results some [2, 3]. -/
def ac23 : AC :=
  .seq (.reg []
    [⟨some 2, none, .mov, [.c (.int .u32 0)]⟩,
     ⟨some 3, none, .mov, [.c (.int .u32 0)]⟩])
  (.seq (.reg []
    [⟨some 6, none, .mov, [.t 0]⟩,
     ⟨some 7, none, .call 29, [.t 6, .f 31]⟩,
     ⟨some 4, none, .mov, [.t 7]⟩])
  (.seq (.seq (.reg []
    [⟨some 8, none, .mov, [.t 4]⟩,
     ⟨some 9, none, .bin .eql .scal, [.t 8, .c (.int .u32 0)]⟩])
  (.cond (.t 9)
  (.reg []
    [⟨some 10, none, .mov, [.t 0]⟩,
     ⟨some 11, none, .call 29, [.t 10, .f 32]⟩,
     ⟨some 4, none, .mov, [.t 11]⟩])
  .skip))
  (.seq (.reg []
    [⟨some 12, none, .mov, [.t 0]⟩,
     ⟨some 13, none, .call 29, [.t 12, .f 33]⟩,
     ⟨some 5, none, .mov, [.t 13]⟩])
  (.seq (.seq (.reg []
    [⟨some 14, none, .mov, [.t 5]⟩,
     ⟨some 15, none, .bin .eql .scal, [.t 14, .c (.int .u32 0)]⟩])
  (.cond (.t 15)
  (.reg []
    [⟨some 16, none, .mov, [.t 4]⟩,
     ⟨some 5, none, .mov, [.t 16]⟩])
  .skip))
  (.seq (.reg []
    [⟨some 17, none, .mov, [.t 5]⟩,
     ⟨some 18, none, .mov, [.t 4]⟩,
     ⟨some 2, none, .mov, [.t 17]⟩,
     ⟨some 3, none, .mov, [.t 18]⟩])
  .ret)))))
theorem i23 : fnInfo Try.prog 23 = some (19, [2, 3], ac23) := by kernel_rfl
def ac24_1 : AC :=
  .seq (.seq (.reg []
    [⟨some 14, none, .mov, [.t 7]⟩,
     ⟨some 15, none, .mov, [.t 0]⟩,
     ⟨some 16, none, .lenL, [.t 15]⟩,
     ⟨some 17, none, .bin .lss .scal, [.t 14, .t 16]⟩])
  (.cond (.t 17)
  .skip
  (.exit 0)))
  (.seq (.block 1 (.seq (.reg []
    [⟨some 20, none, .mov, [.t 0]⟩,
     ⟨some 21, none, .mov, [.t 7]⟩,
     ⟨some 22, none, .idxA 4, [.t 20, .t 21]⟩,
     ⟨some 23, none, .load (some 4), [.t 22]⟩,
     ⟨some 8, none, .alloc [.int .u32 0, .int .i64 0, .int .u32 0, .int .u32 0], []⟩,
     ⟨none, none, .store 4, [.t 8, .t 23]⟩])
  (.seq (.seq (.reg []
    [⟨some 24, none, .fldA 1, [.t 8]⟩,
     ⟨some 25, none, .load none, [.t 24]⟩,
     ⟨some 26, none, .bin .eql .scal, [.t 25, .c (.int .i64 0)]⟩])
  (.cond (.t 26)
  (.exit 1)
  .skip))
  (.seq (.seq (.reg []
    [⟨some 27, none, .fldA 2, [.t 8]⟩,
     ⟨some 28, none, .load none, [.t 27]⟩,
     ⟨some 29, none, .fldA 0, [.t 8]⟩,
     ⟨some 30, none, .load none, [.t 29]⟩,
     ⟨some 31, none, .bin .eql .scal, [.t 28, .t 30]⟩])
  (.cond (.t 31)
  (.seq (.reg []
    [⟨some 32, none, .mov, [.t 4]⟩,
     ⟨some 33, none, .load (some 4), [.t 8]⟩,
     ⟨some 34, none, .bslice 4 45, [.t 33]⟩,
     ⟨some 35, none, .append 4 45 24, [.t 32, .t 34]⟩,
     ⟨some 4, none, .mov, [.t 35]⟩])
  (.exit 1))
  .skip))
  (.seq (.reg []
    [⟨some 36, none, .mov, [.t 6]⟩,
     ⟨some 37, none, .load (some 4), [.t 8]⟩,
     ⟨some 38, none, .bslice 4 45, [.t 37]⟩,
     ⟨some 39, none, .append 4 45 24, [.t 36, .t 38]⟩,
     ⟨some 6, none, .mov, [.t 39]⟩])
  (.seq (.reg []
    [⟨some 40, none, .fldA 3, [.t 8]⟩,
     ⟨some 41, none, .load none, [.t 40]⟩,
     ⟨some 42, none, .fldA 0, [.t 8]⟩,
     ⟨some 43, none, .load none, [.t 42]⟩,
     ⟨some 44, none, .bin .eql .scal, [.t 41, .t 43]⟩])
  (.cond (.t 44)
  (.reg []
    [⟨some 45, none, .mov, [.t 5]⟩,
     ⟨some 46, none, .load (some 4), [.t 8]⟩,
     ⟨some 47, none, .bslice 4 45, [.t 46]⟩,
     ⟨some 48, none, .append 4 45 24, [.t 45, .t 47]⟩,
     ⟨some 5, none, .mov, [.t 48]⟩])
  .skip)))))))
  (.reg []
    [⟨some 18, none, .mov, [.t 7]⟩,
     ⟨some 19, none, .bin .add .scal, [.t 18, .c (.int .i64 1)]⟩,
     ⟨some 7, none, .mov, [.t 19]⟩]))
/-- "crossroads/crossroadsref15.turn": 64 temporaries, 1 parameters, results some [2, 3]. -/
def ac24 : AC :=
  .seq (.reg []
    [⟨some 2, none, .mov, [.c (.int .u32 0)]⟩,
     ⟨some 3, none, .mov, [.c (.int .u32 0)]⟩])
  (.seq (.reg []
    [⟨some 11, none, .bslice 4 45, []⟩,
     ⟨some 12, none, .bslice 4 45, []⟩,
     ⟨some 13, none, .bslice 4 45, []⟩,
     ⟨some 4, none, .mov, [.t 11]⟩,
     ⟨some 5, none, .mov, [.t 12]⟩,
     ⟨some 6, none, .mov, [.t 13]⟩])
  (.seq (.seq (.reg []
    [⟨some 7, none, .mov, [.c (.int .i64 0)]⟩])
  (.block 0 (.loop ac24_1)))
  (.seq (.reg []
    [⟨some 49, none, .mov, [.t 5]⟩,
     ⟨some 50, none, .call 28, [.t 49]⟩,
     ⟨some 9, none, .mov, [.t 50]⟩])
  (.seq (.seq (.reg []
    [⟨some 51, none, .mov, [.t 5]⟩,
     ⟨some 52, none, .lenL, [.t 51]⟩,
     ⟨some 53, none, .bin .eql .scal, [.t 52, .c (.int .i64 0)]⟩])
  (.cond (.t 53)
  (.reg []
    [⟨some 54, none, .mov, [.t 6]⟩,
     ⟨some 55, none, .call 28, [.t 54]⟩,
     ⟨some 9, none, .mov, [.t 55]⟩])
  .skip))
  (.seq (.reg []
    [⟨some 56, none, .mov, [.t 4]⟩,
     ⟨some 57, none, .call 28, [.t 56]⟩,
     ⟨some 10, none, .mov, [.t 57]⟩])
  (.seq (.seq (.reg []
    [⟨some 58, none, .mov, [.t 4]⟩,
     ⟨some 59, none, .lenL, [.t 58]⟩,
     ⟨some 60, none, .bin .eql .scal, [.t 59, .c (.int .i64 0)]⟩])
  (.cond (.t 60)
  (.reg []
    [⟨some 61, none, .mov, [.t 9]⟩,
     ⟨some 10, none, .mov, [.t 61]⟩])
  .skip))
  (.seq (.reg []
    [⟨some 62, none, .mov, [.t 10]⟩,
     ⟨some 63, none, .mov, [.t 9]⟩,
     ⟨some 2, none, .mov, [.t 62]⟩,
     ⟨some 3, none, .mov, [.t 63]⟩])
  .ret)))))))
theorem i24 : fnInfo Try.prog 24 = some (64, [2, 3], ac24) := by kernel_rfl
def ac25_1 : AC :=
  .seq (.reg []
    [⟨some 9, none, .bin .lss .scal, [.t 8, .t 7]⟩])
  (.seq (.cond (.t 9)
  .skip
  (.exit 0))
  (.seq (.block 1 (.seq (.reg []
    [⟨some 10, none, .mov, [.t 8]⟩,
     ⟨some 5, none, .mov, [.t 10]⟩])
  (.seq (.reg []
    [⟨some 11, none, .mov, [.t 1]⟩,
     ⟨some 12, none, .mov, [.t 0]⟩,
     ⟨some 13, none, .mov, [.t 5]⟩,
     ⟨some 14, none, .idxA 4, [.t 12, .t 13]⟩,
     ⟨some 15, none, .load (some 4), [.t 14]⟩,
     ⟨some 16, none, .callv, [.t 11, .t 15]⟩])
  (.cond (.t 16)
  (.seq (.reg []
    [⟨some 17, none, .mov, [.t 5]⟩,
     ⟨some 4, none, .mov, [.t 17]⟩])
  .ret)
  .skip))))
  (.reg []
    [⟨some 18, none, .bin .add .scal, [.t 8, .c (.int .i64 1)]⟩,
     ⟨some 8, none, .mov, [.t 18]⟩])))
/-- "slices.IndexFunc[[]crossroads/elect.Cand,crossroads/elect.Cand]": 19 temporaries, 2 parameters, results some [4]. -/
def ac25 : AC :=
  .seq (.reg []
    [⟨some 4, none, .mov, [.c (.int .i64 0)]⟩])
  (.seq (.seq (.reg []
    [⟨some 6, none, .mov, [.t 0]⟩,
     ⟨some 7, none, .lenL, [.t 6]⟩,
     ⟨some 8, none, .mov, [.c (.int .i64 0)]⟩])
  (.block 0 (.loop ac25_1)))
  (.seq (.reg []
    [⟨some 4, none, .mov, [.c (.int .i64 (-1))]⟩])
  .ret))
theorem i25 : fnInfo Try.prog 25 = some (19, [4], ac25) := by kernel_rfl
/-- "crossroads/elect.Elect$1": 8 temporaries, 1 parameters, results some [3]. -/
def ac26 : AC :=
  .seq (.reg []
    [⟨some 2, none, .box, [.t 0]⟩,
     ⟨some 3, none, .mov, [.c (.bool false)]⟩])
  (.seq (.reg []
    [⟨some 4, none, .fldA 0, [.t 2]⟩,
     ⟨some 5, none, .load none, [.t 4]⟩,
     ⟨some 6, none, .load none, [.t 1]⟩,
     ⟨some 7, none, .bin .eql .scal, [.t 5, .t 6]⟩,
     ⟨some 3, none, .mov, [.t 7]⟩])
  .ret)
theorem i26 : fnInfo Try.prog 26 = some (8, [3], ac26) := by kernel_rfl
/-- "slices.Clone[[]crossroads/elect.Cand,crossroads/elect.Cand]": 8 temporaries, 1 parameters, results some [2]. -/
def ac27 : AC :=
  .seq (.reg []
    [⟨some 2, none, .mov, [.c .nils]⟩])
  (.seq (.seq (.reg []
    [⟨some 3, none, .mov, [.t 0]⟩,
     ⟨some 4, none, .bin .eql .sl, [.t 3, .c .nils]⟩])
  (.cond (.t 4)
  (.seq (.reg []
    [⟨some 2, none, .mov, [.c .nils]⟩])
  .ret)
  .skip))
  (.seq (.reg []
    [⟨some 5, none, .bslice 4 38, []⟩,
     ⟨some 6, none, .mov, [.t 0]⟩,
     ⟨some 7, none, .append 4 38 24, [.t 5, .t 6]⟩,
     ⟨some 2, none, .mov, [.t 7]⟩])
  .ret))
theorem i27 : fnInfo Try.prog 27 = some (8, [2], ac27) := by kernel_rfl
def ac28_1 : AC :=
  .seq (.seq (.reg []
    [⟨some 7, none, .mov, [.t 4]⟩,
     ⟨some 8, none, .mov, [.t 0]⟩,
     ⟨some 9, none, .lenL, [.t 8]⟩,
     ⟨some 10, none, .bin .lss .scal, [.t 7, .t 9]⟩])
  (.cond (.t 10)
  .skip
  (.exit 0)))
  (.seq (.block 1 (.seq (.reg []
    [⟨some 13, none, .mov, [.t 0]⟩,
     ⟨some 14, none, .mov, [.t 4]⟩,
     ⟨some 15, none, .idxA 4, [.t 13, .t 14]⟩,
     ⟨some 16, none, .load (some 4), [.t 15]⟩,
     ⟨some 5, none, .alloc [.int .u32 0, .int .i64 0, .int .u32 0, .int .u32 0], []⟩,
     ⟨none, none, .store 4, [.t 5, .t 16]⟩])
  (.seq (.reg []
    [⟨some 17, none, .fldA 1, [.t 5]⟩,
     ⟨some 18, none, .load none, [.t 17]⟩,
     ⟨some 19, none, .fldA 1, [.t 3]⟩,
     ⟨some 20, none, .load none, [.t 19]⟩,
     ⟨some 21, none, .bin .gtr .scal, [.t 18, .t 20]⟩,
     ⟨some 22, none, .mov, [.t 21]⟩,
     ⟨some 23, some (22, false), .fldA 1, [.t 5]⟩,
     ⟨some 24, some (22, false), .load none, [.t 23]⟩,
     ⟨some 25, some (22, false), .fldA 1, [.t 3]⟩,
     ⟨some 26, some (22, false), .load none, [.t 25]⟩,
     ⟨some 27, some (22, false), .bin .eql .scal, [.t 24, .t 26]⟩,
     ⟨some 28, some (22, false), .mov, [.t 27]⟩,
     ⟨some 29, some (28, true), .fldA 1, [.t 5]⟩,
     ⟨some 30, some (28, true), .load none, [.t 29]⟩,
     ⟨some 31, some (28, true), .bin .gtr .scal, [.t 30, .c (.int .i64 0)]⟩,
     ⟨some 32, some (22, false), .pick, [.t 28, .t 31, .c (.bool false)]⟩,
     ⟨some 33, some (22, false), .mov, [.t 32]⟩,
     ⟨some 34, some (33, true), .fldA 0, [.t 5]⟩,
     ⟨some 35, some (33, true), .load none, [.t 34]⟩,
     ⟨some 36, some (33, true), .fldA 0, [.t 3]⟩,
     ⟨some 37, some (33, true), .load none, [.t 36]⟩,
     ⟨some 38, some (33, true), .bin .gtr .scal, [.t 35, .t 37]⟩,
     ⟨some 39, some (22, false), .pick, [.t 33, .t 38, .c (.bool false)]⟩,
     ⟨some 40, none, .pick, [.t 22, .c (.bool true), .t 39]⟩])
  (.cond (.t 40)
  (.reg []
    [⟨some 41, none, .load (some 4), [.t 5]⟩,
     ⟨none, none, .store 4, [.t 3, .t 41]⟩])
  .skip))))
  (.reg []
    [⟨some 11, none, .mov, [.t 4]⟩,
     ⟨some 12, none, .bin .add .scal, [.t 11, .c (.int .i64 1)]⟩,
     ⟨some 4, none, .mov, [.t 12]⟩]))
/-- "crossroads/crossroadsref15.top": 44 temporaries, 1 parameters, results some [2]. -/
def ac28 : AC :=
  .seq (.reg []
    [⟨some 2, none, .mov, [.c (.int .u32 0)]⟩])
  (.seq (.reg []
    [⟨some 6, none, .build [.int .u32 0, .int .i64 0, .int .u32 0, .int .u32 0] [], []⟩,
     ⟨some 3, none, .alloc [.int .u32 0, .int .i64 0, .int .u32 0, .int .u32 0], []⟩,
     ⟨none, none, .store 4, [.t 3, .t 6]⟩])
  (.seq (.seq (.reg []
    [⟨some 4, none, .mov, [.c (.int .i64 0)]⟩])
  (.block 0 (.loop ac28_1)))
  (.seq (.reg []
    [⟨some 42, none, .fldA 0, [.t 3]⟩,
     ⟨some 43, none, .load none, [.t 42]⟩,
     ⟨some 2, none, .mov, [.t 43]⟩])
  .ret)))
theorem i28 : fnInfo Try.prog 28 = some (44, [2], ac28) := by kernel_rfl
def ac29_1 : AC :=
  .seq (.reg []
    [⟨some 11, none, .bin .lss .scal, [.t 10, .t 9]⟩])
  (.seq (.cond (.t 11)
  .skip
  (.exit 0))
  (.seq (.block 1 (.seq (.reg []
    [⟨some 12, none, .idxA 4, [.t 8, .t 10]⟩,
     ⟨some 13, none, .load (some 4), [.t 12]⟩,
     ⟨some 7, none, .alloc [.int .u32 0, .int .i64 0, .int .u32 0, .int .u32 0], []⟩,
     ⟨none, none, .store 4, [.t 7, .t 13]⟩])
  (.seq (.reg []
    [⟨some 14, none, .fldA 1, [.t 7]⟩,
     ⟨some 15, none, .load none, [.t 14]⟩,
     ⟨some 16, none, .bin .gtr .scal, [.t 15, .c (.int .i64 0)]⟩,
     ⟨some 17, none, .mov, [.t 16]⟩,
     ⟨some 18, some (17, true), .mov, [.t 1]⟩,
     ⟨some 19, some (17, true), .load (some 4), [.t 7]⟩,
     ⟨some 20, some (17, true), .callv, [.t 18, .t 19]⟩,
     ⟨some 21, none, .pick, [.t 17, .t 20, .c (.bool false)]⟩,
     ⟨some 22, none, .mov, [.t 21]⟩,
     ⟨some 23, some (22, true), .fldA 0, [.t 5]⟩,
     ⟨some 24, some (22, true), .load none, [.t 23]⟩,
     ⟨some 25, some (22, true), .bin .eql .scal, [.t 24, .c (.int .u32 0)]⟩,
     ⟨some 26, some (22, true), .mov, [.t 25]⟩,
     ⟨some 27, some (26, false), .load (some 4), [.t 7]⟩,
     ⟨some 28, some (26, false), .load (some 4), [.t 5]⟩,
     ⟨some 29, some (26, false), .call 34, [.t 27, .t 28]⟩,
     ⟨some 30, some (22, true), .pick, [.t 26, .c (.bool true), .t 29]⟩,
     ⟨some 31, none, .pick, [.t 22, .t 30, .c (.bool false)]⟩])
  (.cond (.t 31)
  (.reg []
    [⟨some 32, none, .load (some 4), [.t 7]⟩,
     ⟨none, none, .store 4, [.t 5, .t 32]⟩])
  .skip))))
  (.reg []
    [⟨some 33, none, .bin .add .scal, [.t 10, .c (.int .i64 1)]⟩,
     ⟨some 10, none, .mov, [.t 33]⟩])))
/-- "crossroads/elect.top": 36 temporaries, 2 parameters, results some [4]. -/
def ac29 : AC :=
  .seq (.reg []
    [⟨some 4, none, .mov, [.c (.int .u32 0)]⟩])
  (.seq (.reg []
    [⟨some 5, none, .alloc [.int .u32 0, .int .i64 0, .int .u32 0, .int .u32 0], []⟩])
  (.seq (.seq (.reg []
    [⟨some 8, none, .mov, [.t 0]⟩,
     ⟨some 9, none, .lenL, [.t 8]⟩,
     ⟨some 10, none, .mov, [.c (.int .i64 0)]⟩])
  (.block 0 (.loop ac29_1)))
  (.seq (.reg []
    [⟨some 34, none, .fldA 0, [.t 5]⟩,
     ⟨some 35, none, .load none, [.t 34]⟩,
     ⟨some 4, none, .mov, [.t 35]⟩])
  .ret)))
theorem i29 : fnInfo Try.prog 29 = some (36, [4], ac29) := by kernel_rfl
/-- "crossroads/elect.Speaker$1": 3 temporaries, 1 parameters, results some [2]. -/
def ac30 : AC :=
  .seq (.reg []
    [⟨some 1, none, .box, [.t 0]⟩,
     ⟨some 2, none, .mov, [.c (.bool false)]⟩])
  (.seq (.reg []
    [⟨some 2, none, .mov, [.c (.bool true)]⟩])
  .ret)
theorem i30 : fnInfo Try.prog 30 = some (3, [2], ac30) := by kernel_rfl
/-- "crossroads/elect.turn$1": 15 temporaries, 1 parameters, results some [2]. -/
def ac31 : AC :=
  .seq (.reg []
    [⟨some 1, none, .box, [.t 0]⟩,
     ⟨some 2, none, .mov, [.c (.bool false)]⟩])
  (.seq (.reg []
    [⟨some 3, none, .fldA 2, [.t 1]⟩,
     ⟨some 4, none, .load none, [.t 3]⟩,
     ⟨some 5, none, .fldA 0, [.t 1]⟩,
     ⟨some 6, none, .load none, [.t 5]⟩,
     ⟨some 7, none, .bin .neq .scal, [.t 4, .t 6]⟩,
     ⟨some 8, none, .mov, [.t 7]⟩,
     ⟨some 9, some (8, true), .fldA 3, [.t 1]⟩,
     ⟨some 10, some (8, true), .load none, [.t 9]⟩,
     ⟨some 11, some (8, true), .fldA 0, [.t 1]⟩,
     ⟨some 12, some (8, true), .load none, [.t 11]⟩,
     ⟨some 13, some (8, true), .bin .eql .scal, [.t 10, .t 12]⟩,
     ⟨some 14, none, .pick, [.t 8, .t 13, .c (.bool false)]⟩,
     ⟨some 2, none, .mov, [.t 14]⟩])
  .ret)
theorem i31 : fnInfo Try.prog 31 = some (15, [2], ac31) := by kernel_rfl
/-- "crossroads/elect.turn$2": 8 temporaries, 1 parameters, results some [2]. -/
def ac32 : AC :=
  .seq (.reg []
    [⟨some 1, none, .box, [.t 0]⟩,
     ⟨some 2, none, .mov, [.c (.bool false)]⟩])
  (.seq (.reg []
    [⟨some 3, none, .fldA 2, [.t 1]⟩,
     ⟨some 4, none, .load none, [.t 3]⟩,
     ⟨some 5, none, .fldA 0, [.t 1]⟩,
     ⟨some 6, none, .load none, [.t 5]⟩,
     ⟨some 7, none, .bin .neq .scal, [.t 4, .t 6]⟩,
     ⟨some 2, none, .mov, [.t 7]⟩])
  .ret)
theorem i32 : fnInfo Try.prog 32 = some (8, [2], ac32) := by kernel_rfl
/-- "crossroads/elect.turn$3": 8 temporaries, 1 parameters, results some [2]. -/
def ac33 : AC :=
  .seq (.reg []
    [⟨some 1, none, .box, [.t 0]⟩,
     ⟨some 2, none, .mov, [.c (.bool false)]⟩])
  (.seq (.reg []
    [⟨some 3, none, .fldA 2, [.t 1]⟩,
     ⟨some 4, none, .load none, [.t 3]⟩,
     ⟨some 5, none, .fldA 0, [.t 1]⟩,
     ⟨some 6, none, .load none, [.t 5]⟩,
     ⟨some 7, none, .bin .eql .scal, [.t 4, .t 6]⟩,
     ⟨some 2, none, .mov, [.t 7]⟩])
  .ret)
theorem i33 : fnInfo Try.prog 33 = some (8, [2], ac33) := by kernel_rfl
/-- "(crossroads/elect.Cand).above": 20 temporaries, 2 parameters, results some [4]. -/
def ac34 : AC :=
  .seq (.reg []
    [⟨some 2, none, .box, [.t 0]⟩,
     ⟨some 3, none, .box, [.t 1]⟩,
     ⟨some 4, none, .mov, [.c (.bool false)]⟩])
  (.seq (.seq (.reg []
    [⟨some 5, none, .fldA 1, [.t 2]⟩,
     ⟨some 6, none, .load none, [.t 5]⟩,
     ⟨some 7, none, .fldA 1, [.t 3]⟩,
     ⟨some 8, none, .load none, [.t 7]⟩,
     ⟨some 9, none, .bin .neq .scal, [.t 6, .t 8]⟩])
  (.cond (.t 9)
  (.seq (.reg []
    [⟨some 10, none, .fldA 1, [.t 2]⟩,
     ⟨some 11, none, .load none, [.t 10]⟩,
     ⟨some 12, none, .fldA 1, [.t 3]⟩,
     ⟨some 13, none, .load none, [.t 12]⟩,
     ⟨some 14, none, .bin .gtr .scal, [.t 11, .t 13]⟩,
     ⟨some 4, none, .mov, [.t 14]⟩])
  .ret)
  .skip))
  (.seq (.reg []
    [⟨some 15, none, .fldA 0, [.t 2]⟩,
     ⟨some 16, none, .load none, [.t 15]⟩,
     ⟨some 17, none, .fldA 0, [.t 3]⟩,
     ⟨some 18, none, .load none, [.t 17]⟩,
     ⟨some 19, none, .bin .gtr .scal, [.t 16, .t 18]⟩,
     ⟨some 4, none, .mov, [.t 19]⟩])
  .ret))
theorem i34 : fnInfo Try.prog 34 = some (20, [4], ac34) := by kernel_rfl
end Go.Proofs.Ytbgnflbbebnagaa.Abs

/- The functions of the program as the abstract machine's code: each is what the model's code is turned into. -/
import Derived.Test.YtagiapphmkdnmaaA20
import Derived.Test.YtagiapphmkdnmaaProg
import Derived.KernelRfl
namespace Go.Proofs.Ytagiapphmkdnmaa.Abs
open Go

theorem mixed : Try.prog.follows .mixedOrders = true := by kernel_rfl

def ac3_1 : AC :=
  .seq (.seq (.reg []
    [⟨some 36, none, .mov, [.t 8]⟩,
     ⟨some 37, none, .mov, [.t 0]⟩,
     ⟨some 38, none, .lenL, [.t 37]⟩,
     ⟨some 39, none, .bin .lss .scal, [.t 36, .t 38]⟩])
  (.cond (.t 39)
  .skip
  (.exit 0)))
  (.seq (.block 1 (.seq (.reg []
    [⟨some 42, none, .mov, [.t 0]⟩,
     ⟨some 43, none, .mov, [.t 8]⟩,
     ⟨some 44, none, .idxA 12, [.t 42, .t 43]⟩,
     ⟨some 45, none, .load (some 12), [.t 44]⟩,
     ⟨some 9, none, .alloc [.int .i64 0, .bool false, .nils, .int .i64 0, .int .i64 0, .int .i64 0, .nils, .int .i64 0, .int .i64 0, .int .i64 0, .bool false, .int .u32 0], []⟩,
     ⟨none, none, .store 12, [.t 9, .t 45]⟩])
  (.seq (.reg []
    [⟨some 46, none, .fldA 10, [.t 9]⟩,
     ⟨none, none, .store 1, [.t 46, .c (.bool true)]⟩])
  (.seq (.reg []
    [⟨some 47, none, .mov, [.t 2]⟩,
     ⟨some 48, none, .fldA 11, [.t 9]⟩,
     ⟨none, none, .store 1, [.t 48, .t 47]⟩])
  (.reg []
    [⟨some 49, none, .mov, [.t 7]⟩,
     ⟨some 50, none, .load (some 12), [.t 9]⟩,
     ⟨some 51, none, .bslice 12 39, [.t 50]⟩,
     ⟨some 52, none, .append 12 39 120, [.t 49, .t 51]⟩,
     ⟨some 7, none, .mov, [.t 52]⟩])))))
  (.reg []
    [⟨some 40, none, .mov, [.t 8]⟩,
     ⟨some 41, none, .bin .add .scal, [.t 40, .c (.int .i64 1)]⟩,
     ⟨some 8, none, .mov, [.t 41]⟩]))
def ac3_2 : AC :=
  .seq (.seq (.reg []
    [⟨some 64, none, .mov, [.t 14]⟩,
     ⟨some 65, none, .mov, [.t 0]⟩,
     ⟨some 66, none, .lenL, [.t 65]⟩,
     ⟨some 67, none, .bin .lss .scal, [.t 64, .t 66]⟩])
  (.cond (.t 67)
  .skip
  (.exit 2)))
  (.seq (.block 3 (.seq (.reg []
    [⟨some 70, none, .mov, [.t 0]⟩,
     ⟨some 71, none, .mov, [.t 14]⟩,
     ⟨some 72, none, .idxA 12, [.t 70, .t 71]⟩,
     ⟨some 73, none, .load (some 12), [.t 72]⟩,
     ⟨some 15, none, .alloc [.int .i64 0, .bool false, .nils, .int .i64 0, .int .i64 0, .int .i64 0, .nils, .int .i64 0, .int .i64 0, .int .i64 0, .bool false, .int .u32 0], []⟩,
     ⟨none, none, .store 12, [.t 15, .t 73]⟩])
  (.seq (.reg []
    [⟨some 74, none, .mov, [.t 14]⟩,
     ⟨some 75, none, .bin .add .scal, [.t 74, .c (.int .i64 2)]⟩,
     ⟨some 76, none, .fldA 0, [.t 15]⟩,
     ⟨none, none, .store 1, [.t 76, .t 75]⟩])
  (.reg []
    [⟨some 77, none, .mov, [.t 13]⟩,
     ⟨some 78, none, .load (some 12), [.t 15]⟩,
     ⟨some 79, none, .bslice 12 39, [.t 78]⟩,
     ⟨some 80, none, .append 12 39 120, [.t 77, .t 79]⟩,
     ⟨some 13, none, .mov, [.t 80]⟩]))))
  (.reg []
    [⟨some 68, none, .mov, [.t 14]⟩,
     ⟨some 69, none, .bin .add .scal, [.t 68, .c (.int .i64 1)]⟩,
     ⟨some 14, none, .mov, [.t 69]⟩]))
/-- "crossroads/crossroadslaw08.RmapTags": 119 temporaries, 3 parameters, results some [.t 6]. -/
def ac3 : AC :=
  .seq (.reg []
    [⟨some 4, none, .box, [.t 1]⟩,
     ⟨some 6, none, .mov, [.c (.bool false)]⟩])
  (.seq (.seq (.reg []
    [⟨some 19, none, .mov, [.t 0]⟩,
     ⟨some 20, none, .call 7, [.t 19]⟩,
     ⟨some 21, none, .unNot, [.t 20]⟩,
     ⟨some 22, none, .mov, [.t 21]⟩,
     ⟨some 23, some (22, false), .mov, [.t 0]⟩,
     ⟨some 24, some (22, false), .call 9, [.t 23]⟩,
     ⟨some 25, some (22, false), .call 8, [.t 24]⟩,
     ⟨some 26, some (22, false), .unNot, [.t 25]⟩,
     ⟨some 27, none, .pick, [.t 22, .c (.bool true), .t 26]⟩,
     ⟨some 28, none, .mov, [.t 27]⟩,
     ⟨some 29, some (28, false), .load (some 5), [.t 4]⟩,
     ⟨some 30, some (28, false), .call 11, [.t 29]⟩,
     ⟨some 31, some (28, false), .call 10, [.t 30]⟩,
     ⟨some 32, some (28, false), .unNot, [.t 31]⟩,
     ⟨some 33, none, .pick, [.t 28, .c (.bool true), .t 32]⟩])
  (.cond (.t 33)
  (.seq (.reg []
    [⟨some 34, none, .call 12, []⟩,
     ⟨some 6, none, .mov, [.t 34]⟩])
  .ret)
  .skip))
  (.seq (.reg []
    [⟨some 35, none, .bslice 12 39, []⟩,
     ⟨some 7, none, .mov, [.t 35]⟩])
  (.seq (.seq (.reg []
    [⟨some 8, none, .mov, [.c (.int .i64 0)]⟩])
  (.block 0 (.loop ac3_1)))
  (.seq (.reg []
    [⟨some 54, none, .mov, [.t 7]⟩,
     ⟨some 55, none, .load (some 5), [.t 4]⟩,
     ⟨some 56, none, .call 13, [.t 54, .t 55]⟩,
     ⟨some 53, none, .mov, [.t 56]⟩,
     ⟨some 57, none, .ext 0, [.t 53]⟩,
     ⟨some 58, none, .ext 1, [.t 53]⟩,
     ⟨some 59, none, .ext 2, [.t 53]⟩,
     ⟨some 10, none, .alloc [.int .u32 0, .int .i64 0, .int .i64 0, .int .i64 0, .int .u32 0], []⟩,
     ⟨none, none, .store 5, [.t 10, .t 57]⟩,
     ⟨some 11, none, .mov, [.t 58]⟩,
     ⟨some 12, none, .mov, [.t 59]⟩])
  (.seq (.reg []
    [⟨some 60, none, .mov, [.t 2]⟩,
     ⟨some 61, none, .bslice 1 23, [.t 60]⟩,
     ⟨some 62, none, .build [.int .i64 0, .bool false, .nils, .int .i64 0, .int .i64 0, .int .i64 0, .nils, .int .i64 0, .int .i64 0, .int .i64 0, .bool false, .int .u32 0] [(0, 1), (3, 1), (5, 1), (6, 1), (7, 1), (9, 1)], [.c (.int .i64 1), .c (.int .i64 (-1)), .c (.int .i64 16777215), .t 61, .c (.int .i64 (-1)), .c (.int .i64 (-1))]⟩,
     ⟨some 63, none, .bslice 12 39, [.t 62]⟩,
     ⟨some 13, none, .mov, [.t 63]⟩])
  (.seq (.seq (.reg []
    [⟨some 14, none, .mov, [.c (.int .i64 0)]⟩])
  (.block 2 (.loop ac3_2)))
  (.seq (.reg []
    [⟨some 82, none, .mov, [.t 13]⟩,
     ⟨some 83, none, .load (some 5), [.t 4]⟩,
     ⟨some 84, none, .call 13, [.t 82, .t 83]⟩,
     ⟨some 81, none, .mov, [.t 84]⟩,
     ⟨some 85, none, .ext 0, [.t 81]⟩,
     ⟨some 86, none, .ext 1, [.t 81]⟩,
     ⟨some 87, none, .ext 2, [.t 81]⟩,
     ⟨some 16, none, .alloc [.int .u32 0, .int .i64 0, .int .i64 0, .int .i64 0, .int .u32 0], []⟩,
     ⟨none, none, .store 5, [.t 16, .t 85]⟩,
     ⟨some 17, none, .mov, [.t 86]⟩,
     ⟨some 18, none, .mov, [.t 87]⟩])
  (.seq (.seq (.reg []
    [⟨some 88, none, .mov, [.t 11]⟩,
     ⟨some 89, none, .mov, [.t 88]⟩,
     ⟨some 90, some (89, true), .fldA 4, [.t 10]⟩,
     ⟨some 91, some (89, true), .load none, [.t 90]⟩,
     ⟨some 92, some (89, true), .mov, [.t 2]⟩,
     ⟨some 93, some (89, true), .bin .neq .scal, [.t 91, .t 92]⟩,
     ⟨some 94, some (89, true), .mov, [.t 93]⟩,
     ⟨some 95, some (94, false), .fldA 0, [.t 10]⟩,
     ⟨some 96, some (94, false), .load (some 2), [.t 95]⟩,
     ⟨some 97, some (94, false), .fldA 0, [.t 4]⟩,
     ⟨some 98, some (94, false), .load (some 2), [.t 97]⟩,
     ⟨some 99, some (94, false), .bin .neq (.flat [.int .u32, .int .i64]), [.t 96, .t 98]⟩,
     ⟨some 100, some (89, true), .pick, [.t 94, .c (.bool true), .t 99]⟩,
     ⟨some 101, some (89, true), .mov, [.t 100]⟩,
     ⟨some 102, some (101, false), .load (some 5), [.t 10]⟩,
     ⟨some 103, some (101, false), .call 11, [.t 102]⟩,
     ⟨some 104, some (101, false), .call 10, [.t 103]⟩,
     ⟨some 105, some (101, false), .unNot, [.t 104]⟩,
     ⟨some 106, some (89, true), .pick, [.t 101, .c (.bool true), .t 105]⟩,
     ⟨some 107, none, .pick, [.t 89, .t 106, .c (.bool false)]⟩])
  (.cond (.t 107)
  (.seq (.reg []
    [⟨some 6, none, .mov, [.c (.bool false)]⟩])
  .ret)
  .skip))
  (.seq (.reg []
    [⟨some 108, none, .call 12, []⟩,
     ⟨some 109, none, .mov, [.t 108]⟩,
     ⟨some 110, some (109, true), .mov, [.t 17]⟩,
     ⟨some 111, some (109, true), .unNot, [.t 110]⟩,
     ⟨some 112, some (109, true), .mov, [.t 111]⟩,
     ⟨some 113, some (112, false), .fldA 4, [.t 4]⟩,
     ⟨some 114, some (112, false), .load none, [.t 113]⟩,
     ⟨some 115, some (112, false), .mov, [.t 2]⟩,
     ⟨some 116, some (112, false), .bin .neq .scal, [.t 114, .t 115]⟩,
     ⟨some 117, some (109, true), .pick, [.t 112, .c (.bool true), .t 116]⟩,
     ⟨some 118, none, .pick, [.t 109, .t 117, .c (.bool false)]⟩,
     ⟨some 6, none, .mov, [.t 118]⟩])
  .ret)))))))))
theorem i3 : fnInfo Try.prog 3 = some (119, [.t 6], ac3) := by kernel_rfl
def ac4_1 : AC :=
  .seq (.seq (.reg []
    [⟨some 16, none, .mov, [.t 5]⟩,
     ⟨some 17, none, .mov, [.t 0]⟩,
     ⟨some 18, none, .lenL, [.t 17]⟩,
     ⟨some 19, none, .bin .lss .scal, [.t 16, .t 18]⟩])
  (.cond (.t 19)
  .skip
  (.exit 0)))
  (.seq (.block 1 (.seq (.seq (.reg [[], [], [0, 1], [2], [3], [], [], [5, 6], [7], [8, 4], [9, 9], [4, 10]]
    [⟨some 22, none, .mov, [.t 0]⟩,
     ⟨some 23, none, .mov, [.t 5]⟩,
     ⟨some 24, none, .idxA 12, [.t 22, .t 23]⟩,
     ⟨some 25, none, .load (some 12), [.t 24]⟩,
     ⟨some 26, none, .call 15, [.t 25]⟩,
     ⟨some 27, none, .mov, [.t 0]⟩,
     ⟨some 28, none, .mov, [.t 5]⟩,
     ⟨some 29, none, .idxA 12, [.t 27, .t 28]⟩,
     ⟨some 30, none, .load (some 12), [.t 29]⟩,
     ⟨some 31, none, .call 17, [.t 30]⟩,
     ⟨some 32, none, .call 16, [.t 31]⟩,
     ⟨some 33, none, .bin .neq .bool, [.t 26, .t 32]⟩])
  (.cond (.t 33)
  (.seq (.reg []
    [⟨some 4, none, .mov, [.c (.bool false)]⟩])
  .ret)
  .skip))
  (.seq (.seq (.reg []
    [⟨some 34, none, .mov, [.t 0]⟩,
     ⟨some 35, none, .mov, [.t 5]⟩,
     ⟨some 36, none, .idxA 12, [.t 34, .t 35]⟩,
     ⟨some 37, none, .load (some 12), [.t 36]⟩,
     ⟨some 38, none, .call 17, [.t 37]⟩,
     ⟨some 39, none, .call 16, [.t 38]⟩,
     ⟨some 40, none, .unNot, [.t 39]⟩,
     ⟨some 41, none, .mov, [.t 40]⟩,
     ⟨some 42, some (41, false), .load (some 5), [.t 3]⟩,
     ⟨some 43, some (41, false), .call 11, [.t 42]⟩,
     ⟨some 44, some (41, false), .call 10, [.t 43]⟩,
     ⟨some 45, some (41, false), .unNot, [.t 44]⟩,
     ⟨some 46, none, .pick, [.t 41, .c (.bool true), .t 45]⟩])
  (.cond (.t 46)
  (.exit 1)
  .skip))
  (.seq (.reg [[], [], [0, 1], [2], [], [3, 4], [], [], [6, 7], [8], [9, 5], [], [11, 10], [10, 12, 12], [5, 13], [14, 13], [15], [15], [16, 17, 15], [18, 15], [15], [19, 20, 15, 15], [21, 21, 15], [15], [15], [23, 24, 15], [25, 15], [26, 22, 15], [15], [28, 27, 15], [27, 29, 29, 15], [22, 30, 15], [15, 31]]
    [⟨some 47, none, .mov, [.t 0]⟩,
     ⟨some 48, none, .mov, [.t 5]⟩,
     ⟨some 49, none, .idxA 12, [.t 47, .t 48]⟩,
     ⟨some 50, none, .load (some 12), [.t 49]⟩,
     ⟨some 51, none, .load (some 5), [.t 3]⟩,
     ⟨some 52, none, .call 18, [.t 50, .t 51]⟩,
     ⟨some 53, none, .mov, [.t 0]⟩,
     ⟨some 54, none, .mov, [.t 5]⟩,
     ⟨some 55, none, .idxA 12, [.t 53, .t 54]⟩,
     ⟨some 56, none, .load (some 12), [.t 55]⟩,
     ⟨some 57, none, .call 17, [.t 56]⟩,
     ⟨some 58, none, .load (some 5), [.t 3]⟩,
     ⟨some 59, none, .call 11, [.t 58]⟩,
     ⟨some 60, none, .call 19, [.t 57, .t 59]⟩,
     ⟨some 61, none, .bin .neq .bool, [.t 52, .t 60]⟩,
     ⟨some 62, none, .mov, [.t 61]⟩,
     ⟨some 63, some (62, false), .mov, [.t 0]⟩,
     ⟨some 64, some (62, false), .mov, [.t 5]⟩,
     ⟨some 65, some (62, false), .idxA 12, [.t 63, .t 64]⟩,
     ⟨some 66, some (62, false), .load (some 12), [.t 65]⟩,
     ⟨some 67, some (62, false), .load (some 5), [.t 3]⟩,
     ⟨some 68, some (62, false), .call 20, [.t 66, .t 67]⟩,
     ⟨some 69, some (62, false), .call 11, [.t 68]⟩,
     ⟨some 70, some (62, false), .mov, [.t 0]⟩,
     ⟨some 71, some (62, false), .mov, [.t 5]⟩,
     ⟨some 72, some (62, false), .idxA 12, [.t 70, .t 71]⟩,
     ⟨some 73, some (62, false), .load (some 12), [.t 72]⟩,
     ⟨some 74, some (62, false), .call 17, [.t 73]⟩,
     ⟨some 75, some (62, false), .load (some 5), [.t 3]⟩,
     ⟨some 76, some (62, false), .call 11, [.t 75]⟩,
     ⟨some 77, some (62, false), .call 21, [.t 74, .t 76]⟩,
     ⟨some 78, some (62, false), .bin .neq (.flat [.int .u32, .int .i64, .int .i64, .int .i64, .int .u32]), [.t 69, .t 77]⟩,
     ⟨some 79, none, .pick, [.t 62, .c (.bool true), .t 78]⟩])
  (.cond (.t 79)
  (.seq (.reg []
    [⟨some 4, none, .mov, [.c (.bool false)]⟩])
  .ret)
  .skip)))))
  (.reg []
    [⟨some 20, none, .mov, [.t 5]⟩,
     ⟨some 21, none, .bin .add .scal, [.t 20, .c (.int .i64 1)]⟩,
     ⟨some 5, none, .mov, [.t 21]⟩]))
/-- "crossroads/crossroadslaw08.RmapClause": 81 temporaries, 2 parameters, results some [.t 4]. -/
def ac4 : AC :=
  .seq (.reg []
    [⟨some 3, none, .box, [.t 1]⟩,
     ⟨some 4, none, .mov, [.c (.bool false)]⟩])
  (.seq (.seq (.reg []
    [⟨some 6, none, .mov, [.t 0]⟩,
     ⟨some 7, none, .call 7, [.t 6]⟩,
     ⟨some 8, none, .unNot, [.t 7]⟩])
  (.cond (.t 8)
  (.seq (.reg []
    [⟨some 9, none, .call 12, []⟩,
     ⟨some 4, none, .mov, [.t 9]⟩])
  .ret)
  .skip))
  (.seq (.seq (.reg []
    [⟨some 10, none, .mov, [.t 0]⟩,
     ⟨some 11, none, .call 14, [.t 10]⟩,
     ⟨some 12, none, .mov, [.t 0]⟩,
     ⟨some 13, none, .call 9, [.t 12]⟩,
     ⟨some 14, none, .call 8, [.t 13]⟩,
     ⟨some 15, none, .bin .neq .bool, [.t 11, .t 14]⟩])
  (.cond (.t 15)
  (.seq (.reg []
    [⟨some 4, none, .mov, [.c (.bool false)]⟩])
  .ret)
  .skip))
  (.seq (.seq (.reg []
    [⟨some 5, none, .mov, [.c (.int .i64 0)]⟩])
  (.block 0 (.loop ac4_1)))
  (.seq (.reg []
    [⟨some 80, none, .call 12, []⟩,
     ⟨some 4, none, .mov, [.t 80]⟩])
  .ret))))
theorem i4 : fnInfo Try.prog 4 = some (81, [.t 4], ac4) := by kernel_rfl
/-- "crossroads/crossroadslaw08.RmapEval": 105 temporaries, 3 parameters, results some [.t 6]. -/
def ac5 : AC :=
  .seq (.reg []
    [⟨some 5, none, .box, [.t 2]⟩,
     ⟨some 6, none, .mov, [.c (.bool false)]⟩])
  (.seq (.seq (.reg []
    [⟨some 17, none, .mov, [.t 0]⟩,
     ⟨some 18, none, .call 7, [.t 17]⟩,
     ⟨some 19, none, .unNot, [.t 18]⟩,
     ⟨some 20, none, .mov, [.t 19]⟩,
     ⟨some 21, some (20, false), .mov, [.t 1]⟩,
     ⟨some 22, some (20, false), .call 7, [.t 21]⟩,
     ⟨some 23, some (20, false), .unNot, [.t 22]⟩,
     ⟨some 24, none, .pick, [.t 20, .c (.bool true), .t 23]⟩,
     ⟨some 25, none, .mov, [.t 24]⟩,
     ⟨some 26, some (25, false), .mov, [.t 0]⟩,
     ⟨some 27, some (25, false), .call 9, [.t 26]⟩,
     ⟨some 28, some (25, false), .call 8, [.t 27]⟩,
     ⟨some 29, some (25, false), .unNot, [.t 28]⟩,
     ⟨some 30, none, .pick, [.t 25, .c (.bool true), .t 29]⟩,
     ⟨some 31, none, .mov, [.t 30]⟩,
     ⟨some 32, some (31, false), .mov, [.t 1]⟩,
     ⟨some 33, some (31, false), .call 9, [.t 32]⟩,
     ⟨some 34, some (31, false), .call 8, [.t 33]⟩,
     ⟨some 35, some (31, false), .unNot, [.t 34]⟩,
     ⟨some 36, none, .pick, [.t 31, .c (.bool true), .t 35]⟩,
     ⟨some 37, none, .mov, [.t 36]⟩,
     ⟨some 38, some (37, false), .load (some 5), [.t 5]⟩,
     ⟨some 39, some (37, false), .call 11, [.t 38]⟩,
     ⟨some 40, some (37, false), .call 10, [.t 39]⟩,
     ⟨some 41, some (37, false), .unNot, [.t 40]⟩,
     ⟨some 42, none, .pick, [.t 37, .c (.bool true), .t 41]⟩])
  (.cond (.t 42)
  (.seq (.reg []
    [⟨some 43, none, .call 12, []⟩,
     ⟨some 6, none, .mov, [.t 43]⟩])
  .ret)
  .skip))
  (.seq (.reg []
    [⟨some 45, none, .mov, [.t 0]⟩,
     ⟨some 46, none, .load (some 5), [.t 5]⟩,
     ⟨some 47, none, .call 13, [.t 45, .t 46]⟩,
     ⟨some 44, none, .mov, [.t 47]⟩,
     ⟨some 48, none, .ext 0, [.t 44]⟩,
     ⟨some 49, none, .ext 1, [.t 44]⟩,
     ⟨some 50, none, .ext 2, [.t 44]⟩,
     ⟨some 7, none, .alloc [.int .u32 0, .int .i64 0, .int .i64 0, .int .i64 0, .int .u32 0], []⟩,
     ⟨none, none, .store 5, [.t 7, .t 48]⟩,
     ⟨some 8, none, .mov, [.t 49]⟩,
     ⟨some 9, none, .mov, [.t 50]⟩])
  (.seq (.reg [[], [0], [], [2, 1], [1, 3, 3], [4], [5], [5], [5], [], [9, 6, 4, 0, 1, 2, 3, 4, 5, 6, 9], [7, 10, 0, 1, 2, 3, 4, 5, 6, 7, 9, 10], [8, 11, 0, 1, 2, 3, 4, 5, 6, 7, 8, 9, 10, 11]]
    [⟨some 52, none, .mov, [.t 0]⟩,
     ⟨some 53, none, .call 9, [.t 52]⟩,
     ⟨some 54, none, .load (some 5), [.t 5]⟩,
     ⟨some 55, none, .call 11, [.t 54]⟩,
     ⟨some 56, none, .call 22, [.t 53, .t 55]⟩,
     ⟨some 51, none, .mov, [.t 56]⟩,
     ⟨some 57, none, .ext 0, [.t 51]⟩,
     ⟨some 58, none, .ext 1, [.t 51]⟩,
     ⟨some 59, none, .ext 2, [.t 51]⟩,
     ⟨some 10, none, .alloc [.int .u32 0, .int .i64 0, .int .i64 0, .int .i64 0, .int .u32 0], []⟩,
     ⟨none, none, .store 5, [.t 10, .t 57]⟩,
     ⟨some 11, none, .mov, [.t 58]⟩,
     ⟨some 12, none, .mov, [.t 59]⟩])
  (.seq (.reg []
    [⟨some 61, none, .mov, [.t 0]⟩,
     ⟨some 62, none, .mov, [.t 1]⟩,
     ⟨some 63, none, .load (some 5), [.t 5]⟩,
     ⟨some 64, none, .call 23, [.t 61, .t 62, .t 63]⟩,
     ⟨some 60, none, .mov, [.t 64]⟩,
     ⟨some 65, none, .ext 0, [.t 60]⟩,
     ⟨some 66, none, .ext 1, [.t 60]⟩,
     ⟨some 13, none, .alloc [.int .u32 0, .int .i64 0, .int .i64 0, .int .i64 0, .int .u32 0], []⟩,
     ⟨none, none, .store 5, [.t 13, .t 65]⟩,
     ⟨some 14, none, .mov, [.t 66]⟩])
  (.seq (.reg [[], [0], [], [2, 1], [], [4, 3], [1, 3, 5, 5], [6], [7], [7], [], [10, 8, 6, 0, 1, 2, 3, 4, 5, 6, 7, 8, 10], [9, 11, 0, 1, 2, 3, 4, 5, 6, 7, 8, 9, 10, 11]]
    [⟨some 68, none, .mov, [.t 0]⟩,
     ⟨some 69, none, .call 9, [.t 68]⟩,
     ⟨some 70, none, .mov, [.t 1]⟩,
     ⟨some 71, none, .call 9, [.t 70]⟩,
     ⟨some 72, none, .load (some 5), [.t 5]⟩,
     ⟨some 73, none, .call 11, [.t 72]⟩,
     ⟨some 74, none, .call 24, [.t 69, .t 71, .t 73]⟩,
     ⟨some 67, none, .mov, [.t 74]⟩,
     ⟨some 75, none, .ext 0, [.t 67]⟩,
     ⟨some 76, none, .ext 1, [.t 67]⟩,
     ⟨some 15, none, .alloc [.int .u32 0, .int .i64 0, .int .i64 0, .int .i64 0, .int .u32 0], []⟩,
     ⟨none, none, .store 5, [.t 15, .t 75]⟩,
     ⟨some 16, none, .mov, [.t 76]⟩])
  (.seq (.reg [[], [0, 0], [1], [2, 1, 1], [1], [3, 4, 1], [1, 5], [6, 3], [7], [7], [8, 9, 7], [7, 10], [11, 7], [12], [12], [13, 14, 12], [12, 15], [16, 12], [17], [18, 17, 17], [17], [19, 20, 17], [17, 21], [22, 19], [23], [23], [24, 25, 23], [23, 26], [27, 23, 0, 1, 2, 3, 4, 5, 6, 7, 8, 9, 10, 11, 12, 13, 14, 15, 16, 17, 18, 19, 20, 21, 22, 23, 24, 25, 26, 27]]
    [⟨some 77, none, .call 12, []⟩,
     ⟨some 78, none, .mov, [.t 77]⟩,
     ⟨some 79, some (78, true), .load (some 5), [.t 7]⟩,
     ⟨some 80, some (78, true), .call 11, [.t 79]⟩,
     ⟨some 81, some (78, true), .load (some 5), [.t 10]⟩,
     ⟨some 82, some (78, true), .bin .eql (.flat [.int .u32, .int .i64, .int .i64, .int .i64, .int .u32]), [.t 80, .t 81]⟩,
     ⟨some 83, none, .pick, [.t 78, .t 82, .c (.bool false)]⟩,
     ⟨some 84, none, .mov, [.t 83]⟩,
     ⟨some 85, some (84, true), .mov, [.t 8]⟩,
     ⟨some 86, some (84, true), .mov, [.t 11]⟩,
     ⟨some 87, some (84, true), .bin .eql .bool, [.t 85, .t 86]⟩,
     ⟨some 88, none, .pick, [.t 84, .t 87, .c (.bool false)]⟩,
     ⟨some 89, none, .mov, [.t 88]⟩,
     ⟨some 90, some (89, true), .mov, [.t 9]⟩,
     ⟨some 91, some (89, true), .mov, [.t 12]⟩,
     ⟨some 92, some (89, true), .bin .eql .scal, [.t 90, .t 91]⟩,
     ⟨some 93, none, .pick, [.t 89, .t 92, .c (.bool false)]⟩,
     ⟨some 94, none, .mov, [.t 93]⟩,
     ⟨some 95, some (94, true), .load (some 5), [.t 13]⟩,
     ⟨some 96, some (94, true), .call 11, [.t 95]⟩,
     ⟨some 97, some (94, true), .load (some 5), [.t 15]⟩,
     ⟨some 98, some (94, true), .bin .eql (.flat [.int .u32, .int .i64, .int .i64, .int .i64, .int .u32]), [.t 96, .t 97]⟩,
     ⟨some 99, none, .pick, [.t 94, .t 98, .c (.bool false)]⟩,
     ⟨some 100, none, .mov, [.t 99]⟩,
     ⟨some 101, some (100, true), .mov, [.t 14]⟩,
     ⟨some 102, some (100, true), .mov, [.t 16]⟩,
     ⟨some 103, some (100, true), .bin .eql .bool, [.t 101, .t 102]⟩,
     ⟨some 104, none, .pick, [.t 100, .t 103, .c (.bool false)]⟩,
     ⟨some 6, none, .mov, [.t 104]⟩])
  .ret))))))
theorem i5 : fnInfo Try.prog 5 = some (105, [.t 6], ac5) := by kernel_rfl
def ac6_1 : AC :=
  .seq (.seq (.reg []
    [⟨some 27, none, .mov, [.t 6]⟩,
     ⟨some 28, none, .mov, [.t 1]⟩,
     ⟨some 29, none, .lenL, [.t 28]⟩,
     ⟨some 30, none, .bin .lss .scal, [.t 27, .t 29]⟩])
  (.cond (.t 30)
  .skip
  (.exit 0)))
  (.seq (.block 1 (.seq (.seq (.reg []
    [⟨some 33, none, .mov, [.t 1]⟩,
     ⟨some 34, none, .mov, [.t 6]⟩,
     ⟨some 35, none, .idxA 5, [.t 33, .t 34]⟩,
     ⟨some 36, none, .load (some 5), [.t 35]⟩,
     ⟨some 37, none, .call 11, [.t 36]⟩,
     ⟨some 38, none, .call 10, [.t 37]⟩,
     ⟨some 39, none, .unNot, [.t 38]⟩])
  (.cond (.t 39)
  (.seq (.reg []
    [⟨some 40, none, .call 12, []⟩,
     ⟨some 4, none, .mov, [.t 40]⟩])
  .ret)
  .skip))
  (.reg []
    [⟨some 41, none, .mov, [.t 5]⟩,
     ⟨some 42, none, .mov, [.t 1]⟩,
     ⟨some 43, none, .mov, [.t 6]⟩,
     ⟨some 44, none, .idxA 5, [.t 42, .t 43]⟩,
     ⟨some 45, none, .load (some 5), [.t 44]⟩,
     ⟨some 46, none, .call 11, [.t 45]⟩,
     ⟨some 47, none, .bslice 5 33, [.t 46]⟩,
     ⟨some 48, none, .append 5 33 40, [.t 41, .t 47]⟩,
     ⟨some 5, none, .mov, [.t 48]⟩])))
  (.reg []
    [⟨some 31, none, .mov, [.t 6]⟩,
     ⟨some 32, none, .bin .add .scal, [.t 31, .c (.int .i64 1)]⟩,
     ⟨some 6, none, .mov, [.t 32]⟩]))
def ac6_2 : AC :=
  .seq (.seq (.reg []
    [⟨some 61, none, .mov, [.t 9]⟩,
     ⟨some 62, none, .mov, [.t 7]⟩,
     ⟨some 63, none, .lenL, [.t 62]⟩,
     ⟨some 64, none, .bin .lss .scal, [.t 61, .t 63]⟩])
  (.cond (.t 64)
  .skip
  (.exit 2)))
  (.seq (.block 3 (.seq (.reg [[], [], [0, 1], [2], [3], [], [], [5, 6], [7], [4, 8]]
    [⟨some 67, none, .mov, [.t 7]⟩,
     ⟨some 68, none, .mov, [.t 9]⟩,
     ⟨some 69, none, .idxA 5, [.t 67, .t 68]⟩,
     ⟨some 70, none, .load (some 5), [.t 69]⟩,
     ⟨some 71, none, .call 11, [.t 70]⟩,
     ⟨some 72, none, .mov, [.t 8]⟩,
     ⟨some 73, none, .mov, [.t 9]⟩,
     ⟨some 74, none, .idxA 5, [.t 72, .t 73]⟩,
     ⟨some 75, none, .load (some 5), [.t 74]⟩,
     ⟨some 76, none, .bin .neq (.flat [.int .u32, .int .i64, .int .i64, .int .i64, .int .u32]), [.t 71, .t 75]⟩])
  (.cond (.t 76)
  (.seq (.reg []
    [⟨some 4, none, .mov, [.c (.bool false)]⟩])
  .ret)
  .skip)))
  (.reg []
    [⟨some 65, none, .mov, [.t 9]⟩,
     ⟨some 66, none, .bin .add .scal, [.t 65, .c (.int .i64 1)]⟩,
     ⟨some 9, none, .mov, [.t 66]⟩]))
def ac6_3 : AC :=
  .seq (.seq (.reg []
    [⟨some 77, none, .mov, [.t 10]⟩,
     ⟨some 78, none, .mov, [.t 1]⟩,
     ⟨some 79, none, .lenL, [.t 78]⟩,
     ⟨some 80, none, .bin .lss .scal, [.t 77, .t 79]⟩])
  (.cond (.t 80)
  .skip
  (.exit 4)))
  (.seq (.block 5 (.seq (.reg [[], [], [0, 1], [2], [3], [], [], [5, 6], [7], [4, 8]]
    [⟨some 83, none, .mov, [.t 1]⟩,
     ⟨some 84, none, .mov, [.t 10]⟩,
     ⟨some 85, none, .idxA 5, [.t 83, .t 84]⟩,
     ⟨some 86, none, .load (some 5), [.t 85]⟩,
     ⟨some 87, none, .call 11, [.t 86]⟩,
     ⟨some 88, none, .mov, [.t 5]⟩,
     ⟨some 89, none, .mov, [.t 10]⟩,
     ⟨some 90, none, .idxA 5, [.t 88, .t 89]⟩,
     ⟨some 91, none, .load (some 5), [.t 90]⟩,
     ⟨some 92, none, .bin .neq (.flat [.int .u32, .int .i64, .int .i64, .int .i64, .int .u32]), [.t 87, .t 91]⟩])
  (.cond (.t 92)
  (.seq (.reg []
    [⟨some 4, none, .mov, [.c (.bool false)]⟩])
  .ret)
  .skip)))
  (.reg []
    [⟨some 81, none, .mov, [.t 10]⟩,
     ⟨some 82, none, .bin .add .scal, [.t 81, .c (.int .i64 1)]⟩,
     ⟨some 10, none, .mov, [.t 82]⟩]))
/-- "crossroads/crossroadslaw08.RmapFilter": 94 temporaries, 2 parameters, results some [.t 4]. -/
def ac6 : AC :=
  .seq (.reg []
    [⟨some 4, none, .mov, [.c (.bool false)]⟩])
  (.seq (.seq (.reg []
    [⟨some 11, none, .mov, [.t 0]⟩,
     ⟨some 12, none, .call 7, [.t 11]⟩,
     ⟨some 13, none, .unNot, [.t 12]⟩,
     ⟨some 14, none, .mov, [.t 13]⟩,
     ⟨some 15, some (14, false), .mov, [.t 1]⟩,
     ⟨some 16, some (14, false), .lenL, [.t 15]⟩,
     ⟨some 17, some (14, false), .bin .gtr .scal, [.t 16, .c (.int .i64 30)]⟩,
     ⟨some 18, none, .pick, [.t 14, .c (.bool true), .t 17]⟩,
     ⟨some 19, none, .mov, [.t 18]⟩,
     ⟨some 20, some (19, false), .mov, [.t 0]⟩,
     ⟨some 21, some (19, false), .call 9, [.t 20]⟩,
     ⟨some 22, some (19, false), .call 8, [.t 21]⟩,
     ⟨some 23, some (19, false), .unNot, [.t 22]⟩,
     ⟨some 24, none, .pick, [.t 19, .c (.bool true), .t 23]⟩])
  (.cond (.t 24)
  (.seq (.reg []
    [⟨some 25, none, .call 12, []⟩,
     ⟨some 4, none, .mov, [.t 25]⟩])
  .ret)
  .skip))
  (.seq (.reg []
    [⟨some 26, none, .bslice 5 33, []⟩,
     ⟨some 5, none, .mov, [.t 26]⟩])
  (.seq (.seq (.reg []
    [⟨some 6, none, .mov, [.c (.int .i64 0)]⟩])
  (.block 0 (.loop ac6_1)))
  (.seq (.reg []
    [⟨some 49, none, .mov, [.t 0]⟩,
     ⟨some 50, none, .mov, [.t 1]⟩,
     ⟨some 51, none, .call 25, [.t 49, .t 50]⟩,
     ⟨some 52, none, .mov, [.t 0]⟩,
     ⟨some 53, none, .call 9, [.t 52]⟩,
     ⟨some 54, none, .mov, [.t 5]⟩,
     ⟨some 55, none, .call 26, [.t 53, .t 54]⟩,
     ⟨some 7, none, .mov, [.t 51]⟩,
     ⟨some 8, none, .mov, [.t 55]⟩])
  (.seq (.seq (.reg []
    [⟨some 56, none, .mov, [.t 7]⟩,
     ⟨some 57, none, .lenL, [.t 56]⟩,
     ⟨some 58, none, .mov, [.t 8]⟩,
     ⟨some 59, none, .lenL, [.t 58]⟩,
     ⟨some 60, none, .bin .neq .scal, [.t 57, .t 59]⟩])
  (.cond (.t 60)
  (.seq (.reg []
    [⟨some 4, none, .mov, [.c (.bool false)]⟩])
  .ret)
  .skip))
  (.seq (.seq (.reg []
    [⟨some 9, none, .mov, [.c (.int .i64 0)]⟩])
  (.block 2 (.loop ac6_2)))
  (.seq (.seq (.reg []
    [⟨some 10, none, .mov, [.c (.int .i64 0)]⟩])
  (.block 4 (.loop ac6_3)))
  (.seq (.reg []
    [⟨some 93, none, .call 12, []⟩,
     ⟨some 4, none, .mov, [.t 93]⟩])
  .ret))))))))
theorem i6 : fnInfo Try.prog 6 = some (94, [.t 4], ac6) := by kernel_rfl
def ac7_1 : AC :=
  .seq (.seq (.reg []
    [⟨some 4, none, .mov, [.t 3]⟩,
     ⟨some 5, none, .mov, [.t 0]⟩,
     ⟨some 6, none, .lenL, [.t 5]⟩,
     ⟨some 7, none, .bin .lss .scal, [.t 4, .t 6]⟩])
  (.cond (.t 7)
  .skip
  (.exit 0)))
  (.seq (.block 1 (.seq (.reg []
    [⟨some 10, none, .mov, [.t 3]⟩,
     ⟨some 11, none, .bin .eql .scal, [.t 10, .c (.int .i64 20)]⟩,
     ⟨some 12, none, .mov, [.t 11]⟩,
     ⟨some 13, some (12, false), .mov, [.t 0]⟩,
     ⟨some 14, some (12, false), .mov, [.t 3]⟩,
     ⟨some 15, some (12, false), .idxA 12, [.t 13, .t 14]⟩,
     ⟨some 16, some (12, false), .fldA 2, [.t 15]⟩,
     ⟨some 17, some (12, false), .load none, [.t 16]⟩,
     ⟨some 18, some (12, false), .lenL, [.t 17]⟩,
     ⟨some 19, some (12, false), .bin .gtr .scal, [.t 18, .c (.int .i64 20)]⟩,
     ⟨some 20, none, .pick, [.t 12, .c (.bool true), .t 19]⟩,
     ⟨some 21, none, .mov, [.t 20]⟩,
     ⟨some 22, some (21, false), .mov, [.t 0]⟩,
     ⟨some 23, some (21, false), .mov, [.t 3]⟩,
     ⟨some 24, some (21, false), .idxA 12, [.t 22, .t 23]⟩,
     ⟨some 25, some (21, false), .fldA 6, [.t 24]⟩,
     ⟨some 26, some (21, false), .load none, [.t 25]⟩,
     ⟨some 27, some (21, false), .lenL, [.t 26]⟩,
     ⟨some 28, some (21, false), .bin .gtr .scal, [.t 27, .c (.int .i64 20)]⟩,
     ⟨some 29, none, .pick, [.t 21, .c (.bool true), .t 28]⟩])
  (.cond (.t 29)
  (.seq (.reg []
    [⟨some 2, none, .mov, [.c (.bool false)]⟩])
  .ret)
  .skip)))
  (.reg []
    [⟨some 8, none, .mov, [.t 3]⟩,
     ⟨some 9, none, .bin .add .scal, [.t 8, .c (.int .i64 1)]⟩,
     ⟨some 3, none, .mov, [.t 9]⟩]))
/-- "crossroads/crossroadslaw08.small": 30 temporaries, 1 parameters, results some [.t 2]. -/
def ac7 : AC :=
  .seq (.reg []
    [⟨some 2, none, .mov, [.c (.bool false)]⟩])
  (.seq (.seq (.reg []
    [⟨some 3, none, .mov, [.c (.int .i64 0)]⟩])
  (.block 0 (.loop ac7_1)))
  (.seq (.reg []
    [⟨some 2, none, .mov, [.c (.bool true)]⟩])
  .ret))
theorem i7 : fnInfo Try.prog 7 = some (30, [.t 2], ac7) := by kernel_rfl
def ac8_1 : AC :=
  .seq (.seq (.reg []
    [⟨some 4, none, .mov, [.t 3]⟩,
     ⟨some 5, none, .mov, [.t 0]⟩,
     ⟨some 6, none, .lenL, [.t 5]⟩,
     ⟨some 7, none, .bin .lss .scal, [.t 4, .t 6]⟩])
  (.cond (.t 7)
  .skip
  (.exit 0)))
  (.seq (.block 1 (.seq (.reg [[], [], [0, 1], [2], [3], [4], [5, 4], [6], [7, 6], [8, 6, 6], [9], [9], [10, 11, 9], [12, 9], [13, 9], [9], [9], [16, 9], [15, 17, 9], [18, 9], [19, 9], [14, 20, 9], [9, 21, 6], [6, 22]]
    [⟨some 10, none, .mov, [.t 0]⟩,
     ⟨some 11, none, .mov, [.t 3]⟩,
     ⟨some 12, none, .idxA 12, [.t 10, .t 11]⟩,
     ⟨some 13, none, .load (some 12), [.t 12]⟩,
     ⟨some 14, none, .call 16, [.t 13]⟩,
     ⟨some 15, none, .unNot, [.t 14]⟩,
     ⟨some 16, none, .mov, [.t 15]⟩,
     ⟨some 17, some (16, false), .mov, [.t 3]⟩,
     ⟨some 18, some (16, false), .bin .gtr .scal, [.t 17, .c (.int .i64 0)]⟩,
     ⟨some 19, some (16, false), .mov, [.t 18]⟩,
     ⟨some 20, some (19, true), .mov, [.t 0]⟩,
     ⟨some 21, some (19, true), .mov, [.t 3]⟩,
     ⟨some 22, some (19, true), .idxA 12, [.t 20, .t 21]⟩,
     ⟨some 23, some (19, true), .fldA 0, [.t 22]⟩,
     ⟨some 24, some (19, true), .load none, [.t 23]⟩,
     ⟨some 25, some (19, true), .mov, [.t 0]⟩,
     ⟨some 26, some (19, true), .mov, [.t 3]⟩,
     ⟨some 27, some (19, true), .bin .sub .scal, [.t 26, .c (.int .i64 1)]⟩,
     ⟨some 28, some (19, true), .idxA 12, [.t 25, .t 27]⟩,
     ⟨some 29, some (19, true), .fldA 0, [.t 28]⟩,
     ⟨some 30, some (19, true), .load none, [.t 29]⟩,
     ⟨some 31, some (19, true), .bin .leq .scal, [.t 24, .t 30]⟩,
     ⟨some 32, some (16, false), .pick, [.t 19, .t 31, .c (.bool false)]⟩,
     ⟨some 33, none, .pick, [.t 16, .c (.bool true), .t 32]⟩])
  (.cond (.t 33)
  (.seq (.reg []
    [⟨some 2, none, .mov, [.c (.bool false)]⟩])
  .ret)
  .skip)))
  (.reg []
    [⟨some 8, none, .mov, [.t 3]⟩,
     ⟨some 9, none, .bin .add .scal, [.t 8, .c (.int .i64 1)]⟩,
     ⟨some 3, none, .mov, [.t 9]⟩]))
/-- "crossroads/crossroadsref08.MayAll": 34 temporaries, 1 parameters, results some [.t 2]. -/
def ac8 : AC :=
  .seq (.reg []
    [⟨some 2, none, .mov, [.c (.bool false)]⟩])
  (.seq (.seq (.reg []
    [⟨some 3, none, .mov, [.c (.int .i64 0)]⟩])
  (.block 0 (.loop ac8_1)))
  (.seq (.reg []
    [⟨some 2, none, .mov, [.c (.bool true)]⟩])
  .ret))
theorem i8 : fnInfo Try.prog 8 = some (34, [.t 2], ac8) := by kernel_rfl
def ac9_1 : AC :=
  .seq (.seq (.reg []
    [⟨some 6, none, .mov, [.t 4]⟩,
     ⟨some 7, none, .mov, [.t 0]⟩,
     ⟨some 8, none, .lenL, [.t 7]⟩,
     ⟨some 9, none, .bin .lss .scal, [.t 6, .t 8]⟩])
  (.cond (.t 9)
  .skip
  (.exit 0)))
  (.seq (.block 1 (.reg []
    [⟨some 12, none, .mov, [.t 3]⟩,
     ⟨some 13, none, .mov, [.t 0]⟩,
     ⟨some 14, none, .mov, [.t 4]⟩,
     ⟨some 15, none, .idxA 12, [.t 13, .t 14]⟩,
     ⟨some 16, none, .load (some 12), [.t 15]⟩,
     ⟨some 17, none, .call 17, [.t 16]⟩,
     ⟨some 18, none, .bslice 12 47, [.t 17]⟩,
     ⟨some 19, none, .append 12 47 120, [.t 12, .t 18]⟩,
     ⟨some 3, none, .mov, [.t 19]⟩]))
  (.reg []
    [⟨some 10, none, .mov, [.t 4]⟩,
     ⟨some 11, none, .bin .add .scal, [.t 10, .c (.int .i64 1)]⟩,
     ⟨some 4, none, .mov, [.t 11]⟩]))
/-- "crossroads/crossroadslaw08.rows": 21 temporaries, 1 parameters, results some [.t 2]. -/
def ac9 : AC :=
  .seq (.reg []
    [⟨some 2, none, .mov, [.c .nils]⟩])
  (.seq (.reg []
    [⟨some 5, none, .bslice 12 47, []⟩,
     ⟨some 3, none, .mov, [.t 5]⟩])
  (.seq (.seq (.reg []
    [⟨some 4, none, .mov, [.c (.int .i64 0)]⟩])
  (.block 0 (.loop ac9_1)))
  (.seq (.reg []
    [⟨some 20, none, .mov, [.t 3]⟩,
     ⟨some 2, none, .mov, [.t 20]⟩])
  .ret)))
theorem i9 : fnInfo Try.prog 9 = some (21, [.t 2], ac9) := by kernel_rfl
/-- "crossroads/crossroadsref08.MayRoute": 11 temporaries, 1 parameters, results some [.t 2]. -/
def ac10 : AC :=
  .seq (.reg []
    [⟨some 1, none, .box, [.t 0]⟩,
     ⟨some 2, none, .mov, [.c (.bool false)]⟩])
  (.seq (.reg []
    [⟨some 3, none, .fldA 2, [.t 1]⟩,
     ⟨some 4, none, .load none, [.t 3]⟩,
     ⟨some 5, none, .call 27, [.t 4, .c (.int .i64 0), .c (.int .i64 9)]⟩,
     ⟨some 6, none, .mov, [.t 5]⟩,
     ⟨some 7, some (6, true), .fldA 3, [.t 1]⟩,
     ⟨some 8, some (6, true), .load none, [.t 7]⟩,
     ⟨some 9, some (6, true), .call 27, [.t 8, .c (.int .i64 0), .c (.int .i64 16777215)]⟩,
     ⟨some 10, none, .pick, [.t 6, .t 9, .c (.bool false)]⟩,
     ⟨some 2, none, .mov, [.t 10]⟩])
  .ret)
theorem i10 : fnInfo Try.prog 10 = some (11, [.t 2], ac10) := by kernel_rfl
/-- "crossroads/crossroadslaw08.route": 12 temporaries, 1 parameters, results some [.c 2 (some 5)]. -/
def ac11 : AC :=
  .seq (.reg []
    [⟨some 1, none, .box, [.t 0]⟩,
     ⟨some 2, none, .alloc [.int .u32 0, .int .i64 0, .int .i64 0, .int .i64 0, .int .u32 0], []⟩])
  (.seq (.reg []
    [⟨some 3, none, .fldA 0, [.t 1]⟩,
     ⟨some 4, none, .load (some 2), [.t 3]⟩,
     ⟨some 5, none, .fldA 2, [.t 1]⟩,
     ⟨some 6, none, .load none, [.t 5]⟩,
     ⟨some 7, none, .fldA 3, [.t 1]⟩,
     ⟨some 8, none, .load none, [.t 7]⟩,
     ⟨some 9, none, .fldA 4, [.t 1]⟩,
     ⟨some 10, none, .load none, [.t 9]⟩,
     ⟨some 11, none, .build [.int .u32 0, .int .i64 0, .int .i64 0, .int .i64 0, .int .u32 0] [(0, 2), (2, 1), (3, 1), (4, 1)], [.t 4, .t 6, .t 8, .t 10]⟩,
     ⟨none, none, .store 5, [.t 2, .t 11]⟩])
  .ret)
theorem i11 : fnInfo Try.prog 11 = some (12, [.c 2 (some 5)], ac11) := by kernel_rfl
/-- "crossroads/crossroadslaw08.alive": 46 temporaries, 0 parameters, results some [.t 0]. -/
def ac12 : AC :=
  .seq (.reg []
    [⟨some 0, none, .mov, [.c (.bool false)]⟩])
  (.seq (.reg []
    [⟨some 8, none, .build [.int .i64 0, .bool false, .nils, .int .i64 0, .int .i64 0, .int .i64 0, .nils, .int .i64 0, .int .i64 0, .int .i64 0, .bool false, .int .u32 0] [(0, 1), (1, 1), (3, 1), (5, 1), (7, 1), (8, 1), (9, 1), (10, 1), (11, 1)], [.c (.int .i64 1), .c (.bool true), .c (.int .i64 (-1)), .c (.int .i64 10), .c (.int .i64 (-1)), .c (.int .i64 2), .c (.int .i64 3), .c (.bool true), .c (.int .u32 9)]⟩,
     ⟨some 1, none, .alloc [.int .i64 0, .bool false, .nils, .int .i64 0, .int .i64 0, .int .i64 0, .nils, .int .i64 0, .int .i64 0, .int .i64 0, .bool false, .int .u32 0], []⟩,
     ⟨none, none, .store 12, [.t 1, .t 8]⟩])
  (.seq (.reg []
    [⟨some 10, none, .load (some 12), [.t 1]⟩,
     ⟨some 11, none, .bslice 12 39, [.t 10]⟩,
     ⟨some 12, none, .build [.int .u32 0, .int .i64 0] [], []⟩,
     ⟨some 13, none, .build [.int .u32 0, .int .i64 0, .int .i64 0, .int .i64 0, .int .u32 0] [(0, 2), (3, 1)], [.t 12, .c (.int .i64 5)]⟩,
     ⟨some 14, none, .call 13, [.t 11, .t 13]⟩,
     ⟨some 9, none, .mov, [.t 14]⟩,
     ⟨some 15, none, .ext 0, [.t 9]⟩,
     ⟨some 16, none, .ext 1, [.t 9]⟩,
     ⟨some 17, none, .ext 2, [.t 9]⟩,
     ⟨some 2, none, .alloc [.int .u32 0, .int .i64 0, .int .i64 0, .int .i64 0, .int .u32 0], []⟩,
     ⟨none, none, .store 5, [.t 2, .t 15]⟩,
     ⟨some 3, none, .mov, [.t 16]⟩,
     ⟨some 4, none, .mov, [.t 17]⟩])
  (.seq (.reg []
    [⟨some 19, none, .build [.int .u32 0, .int .i64 0, .int .i64 0, .int .i64 0, .int .u32 0] [], []⟩,
     ⟨some 20, none, .call 13, [.c .nils, .t 19]⟩,
     ⟨some 18, none, .mov, [.t 20]⟩,
     ⟨some 21, none, .ext 0, [.t 18]⟩,
     ⟨some 22, none, .ext 1, [.t 18]⟩,
     ⟨some 23, none, .ext 2, [.t 18]⟩,
     ⟨some 5, none, .alloc [.int .u32 0, .int .i64 0, .int .i64 0, .int .i64 0, .int .u32 0], []⟩,
     ⟨none, none, .store 5, [.t 5, .t 21]⟩,
     ⟨some 6, none, .mov, [.t 22]⟩,
     ⟨some 7, none, .mov, [.t 23]⟩])
  (.seq (.reg []
    [⟨some 24, none, .load (some 12), [.t 1]⟩,
     ⟨some 25, none, .call 15, [.t 24]⟩,
     ⟨some 26, none, .mov, [.t 25]⟩,
     ⟨some 27, some (26, true), .mov, [.t 3]⟩,
     ⟨some 28, none, .pick, [.t 26, .t 27, .c (.bool false)]⟩,
     ⟨some 29, none, .mov, [.t 28]⟩,
     ⟨some 30, some (29, true), .mov, [.t 4]⟩,
     ⟨some 31, some (29, true), .bin .eql .scal, [.t 30, .c (.int .i64 1)]⟩,
     ⟨some 32, none, .pick, [.t 29, .t 31, .c (.bool false)]⟩,
     ⟨some 33, none, .mov, [.t 32]⟩,
     ⟨some 34, some (33, true), .load (some 5), [.t 2]⟩,
     ⟨some 35, some (33, true), .build [.int .u32 0, .int .i64 0, .int .i64 0, .int .i64 0, .int .u32 0] [(2, 1), (3, 1), (4, 1)], [.c (.int .i64 3), .c (.int .i64 7), .c (.int .u32 9)]⟩,
     ⟨some 36, some (33, true), .bin .eql (.flat [.int .u32, .int .i64, .int .i64, .int .i64, .int .u32]), [.t 34, .t 35]⟩,
     ⟨some 37, none, .pick, [.t 33, .t 36, .c (.bool false)]⟩,
     ⟨some 38, none, .mov, [.t 37]⟩,
     ⟨some 39, some (38, true), .mov, [.t 6]⟩,
     ⟨some 40, some (38, true), .unNot, [.t 39]⟩,
     ⟨some 41, none, .pick, [.t 38, .t 40, .c (.bool false)]⟩,
     ⟨some 42, none, .mov, [.t 41]⟩,
     ⟨some 43, some (42, true), .mov, [.t 7]⟩,
     ⟨some 44, some (42, true), .bin .eql .scal, [.t 43, .c (.int .i64 0)]⟩,
     ⟨some 45, none, .pick, [.t 42, .t 44, .c (.bool false)]⟩,
     ⟨some 0, none, .mov, [.t 45]⟩])
  .ret))))
theorem i12 : fnInfo Try.prog 12 = some (46, [.t 0], ac12) := by kernel_rfl
/-- "crossroads/rmap.Eval": 39 temporaries, 2 parameters, results some [.c 4 (some 5), .t 5, .t 6]. -/
def ac13 : AC :=
  .seq (.reg []
    [⟨some 3, none, .box, [.t 1]⟩,
     ⟨some 4, none, .alloc [.int .u32 0, .int .i64 0, .int .i64 0, .int .i64 0, .int .u32 0], []⟩,
     ⟨some 5, none, .mov, [.c (.bool false)]⟩,
     ⟨some 6, none, .mov, [.c (.int .i64 0)]⟩])
  (.seq (.reg []
    [⟨some 8, none, .mov, [.t 0]⟩,
     ⟨some 9, none, .mkfn 29 0, [.t 3]⟩,
     ⟨some 10, none, .call 28, [.t 8, .t 9]⟩,
     ⟨some 7, none, .mov, [.t 10]⟩])
  (.seq (.block 0 (.seq (.reg []
    [⟨some 12, none, .mov, [.t 7]⟩,
     ⟨some 13, none, .bin .lss .scal, [.t 12, .c (.int .i64 0)]⟩,
     ⟨some 11, none, .mov, [.t 13]⟩])
  (.cond (.t 11)
  (.seq (.reg []
    [⟨some 14, none, .build [.int .u32 0, .int .i64 0, .int .i64 0, .int .i64 0, .int .u32 0] [], []⟩,
     ⟨none, none, .store 5, [.t 4, .t 14]⟩,
     ⟨some 5, none, .mov, [.c (.bool false)]⟩,
     ⟨some 6, none, .mov, [.c (.int .i64 0)]⟩])
  .ret)
  (.seq (.reg []
    [⟨some 16, none, .mov, [.t 0]⟩,
     ⟨some 17, none, .mov, [.t 7]⟩,
     ⟨some 18, none, .idxA 12, [.t 16, .t 17]⟩,
     ⟨some 19, none, .fldA 1, [.t 18]⟩,
     ⟨some 20, none, .load none, [.t 19]⟩,
     ⟨some 21, none, .unNot, [.t 20]⟩,
     ⟨some 15, none, .mov, [.t 21]⟩])
  (.cond (.t 15)
  (.seq (.reg [[], [], [], [1, 2], [3], [4], [0, 0], [6, 0, 6], [5, 7, 0, 1, 2, 3, 4, 5, 6, 7]]
    [⟨some 22, none, .build [.int .u32 0, .int .i64 0, .int .i64 0, .int .i64 0, .int .u32 0] [], []⟩,
     ⟨some 23, none, .mov, [.t 0]⟩,
     ⟨some 24, none, .mov, [.t 7]⟩,
     ⟨some 25, none, .idxA 12, [.t 23, .t 24]⟩,
     ⟨some 26, none, .fldA 0, [.t 25]⟩,
     ⟨some 27, none, .load none, [.t 26]⟩,
     ⟨none, none, .store 5, [.t 4, .t 22]⟩,
     ⟨some 5, none, .mov, [.c (.bool false)]⟩,
     ⟨some 6, none, .mov, [.t 27]⟩])
  .ret)
  .skip)))))
  (.seq (.reg [[], [], [0, 1], [2], [], [3, 4], [], [], [6, 7], [8], [9], [5, 5, 0, 1, 2, 3, 4, 5], [11, 0, 1, 2, 3, 4, 5, 11], [10, 12, 0, 1, 2, 3, 4, 5, 6, 7, 8, 9, 10, 11, 12]]
    [⟨some 28, none, .mov, [.t 0]⟩,
     ⟨some 29, none, .mov, [.t 7]⟩,
     ⟨some 30, none, .idxA 12, [.t 28, .t 29]⟩,
     ⟨some 31, none, .load (some 12), [.t 30]⟩,
     ⟨some 32, none, .load (some 5), [.t 3]⟩,
     ⟨some 33, none, .call 20, [.t 31, .t 32]⟩,
     ⟨some 34, none, .mov, [.t 0]⟩,
     ⟨some 35, none, .mov, [.t 7]⟩,
     ⟨some 36, none, .idxA 12, [.t 34, .t 35]⟩,
     ⟨some 37, none, .fldA 0, [.t 36]⟩,
     ⟨some 38, none, .load none, [.t 37]⟩,
     ⟨none, none, .store 5, [.t 4, .t 33]⟩,
     ⟨some 5, none, .mov, [.c (.bool true)]⟩,
     ⟨some 6, none, .mov, [.t 38]⟩])
  .ret)))
theorem i13 : fnInfo Try.prog 13 = some (39, [.c 4 (some 5), .t 5, .t 6], ac13) := by kernel_rfl
/-- "crossroads/rmap.MayAll": 12 temporaries, 1 parameters, results some [.t 2]. -/
def ac14 : AC :=
  .seq (.reg []
    [⟨some 2, none, .mov, [.c (.bool false)]⟩])
  (.seq (.reg []
    [⟨some 3, none, .mov, [.f 30]⟩])
  (.seq (.reg []
    [⟨some 4, none, .mov, [.t 0]⟩,
     ⟨some 5, none, .mov, [.t 3]⟩,
     ⟨some 6, none, .call 31, [.t 4, .t 5]⟩,
     ⟨some 7, none, .unNot, [.t 6]⟩,
     ⟨some 8, none, .mov, [.t 7]⟩,
     ⟨some 9, some (8, true), .mov, [.t 0]⟩,
     ⟨some 10, some (8, true), .call 32, [.t 9, .f 33]⟩,
     ⟨some 11, none, .pick, [.t 8, .t 10, .c (.bool false)]⟩,
     ⟨some 2, none, .mov, [.t 11]⟩])
  .ret))
theorem i14 : fnInfo Try.prog 14 = some (12, [.t 2], ac14) := by kernel_rfl
/-- "crossroads/rmap.May": 47 temporaries, 1 parameters, results some [.t 2]. -/
def ac15 : AC :=
  .seq (.reg []
    [⟨some 1, none, .box, [.t 0]⟩,
     ⟨some 2, none, .mov, [.c (.bool false)]⟩])
  (.seq (.reg []
    [⟨some 5, none, .fldA 3, [.t 1]⟩,
     ⟨some 6, none, .load none, [.t 5]⟩,
     ⟨some 7, none, .call 34, [.t 6, .c (.int .i64 (-1)), .c (.int .i64 9)]⟩,
     ⟨some 8, none, .mov, [.t 7]⟩,
     ⟨some 9, some (8, true), .fldA 4, [.t 1]⟩,
     ⟨some 10, some (8, true), .load none, [.t 9]⟩,
     ⟨some 11, some (8, true), .fldA 5, [.t 1]⟩,
     ⟨some 12, some (8, true), .load none, [.t 11]⟩,
     ⟨some 13, some (8, true), .call 34, [.t 10, .c (.int .i64 0), .t 12]⟩,
     ⟨some 14, none, .pick, [.t 8, .t 13, .c (.bool false)]⟩,
     ⟨some 15, none, .mov, [.t 14]⟩,
     ⟨some 16, some (15, true), .fldA 5, [.t 1]⟩,
     ⟨some 17, some (15, true), .load none, [.t 16]⟩,
     ⟨some 18, some (15, true), .bin .leq .scal, [.t 17, .c (.int .i64 16777215)]⟩,
     ⟨some 19, none, .pick, [.t 15, .t 18, .c (.bool false)]⟩,
     ⟨some 3, none, .mov, [.t 19]⟩])
  (.seq (.reg []
    [⟨some 20, none, .fldA 7, [.t 1]⟩,
     ⟨some 21, none, .load none, [.t 20]⟩,
     ⟨some 22, none, .call 34, [.t 21, .c (.int .i64 (-1)), .c (.int .i64 16777215)]⟩,
     ⟨some 23, none, .mov, [.t 22]⟩,
     ⟨some 24, some (23, true), .fldA 8, [.t 1]⟩,
     ⟨some 25, some (23, true), .load none, [.t 24]⟩,
     ⟨some 26, some (23, true), .call 34, [.t 25, .c (.int .i64 0), .c (.int .i64 16777215)]⟩,
     ⟨some 27, none, .pick, [.t 23, .t 26, .c (.bool false)]⟩,
     ⟨some 28, none, .mov, [.t 27]⟩,
     ⟨some 29, some (28, true), .fldA 9, [.t 1]⟩,
     ⟨some 30, some (28, true), .load none, [.t 29]⟩,
     ⟨some 31, some (28, true), .call 34, [.t 30, .c (.int .i64 (-1)), .c (.int .i64 9)]⟩,
     ⟨some 32, none, .pick, [.t 28, .t 31, .c (.bool false)]⟩,
     ⟨some 4, none, .mov, [.t 32]⟩])
  (.seq (.reg []
    [⟨some 33, none, .fldA 0, [.t 1]⟩,
     ⟨some 34, none, .load none, [.t 33]⟩,
     ⟨some 35, none, .call 34, [.t 34, .c (.int .i64 1), .c (.int .i64 65535)]⟩,
     ⟨some 36, none, .mov, [.t 35]⟩,
     ⟨some 37, some (36, true), .mov, [.t 3]⟩,
     ⟨some 38, none, .pick, [.t 36, .t 37, .c (.bool false)]⟩,
     ⟨some 39, none, .mov, [.t 38]⟩,
     ⟨some 40, some (39, true), .mov, [.t 4]⟩,
     ⟨some 41, none, .pick, [.t 39, .t 40, .c (.bool false)]⟩,
     ⟨some 42, none, .mov, [.t 41]⟩,
     ⟨some 43, some (42, true), .fldA 2, [.t 1]⟩,
     ⟨some 44, some (42, true), .load none, [.t 43]⟩,
     ⟨some 45, some (42, true), .call 35, [.t 44]⟩,
     ⟨some 46, none, .pick, [.t 42, .t 45, .c (.bool false)]⟩,
     ⟨some 2, none, .mov, [.t 46]⟩])
  .ret)))
theorem i15 : fnInfo Try.prog 15 = some (47, [.t 2], ac15) := by kernel_rfl
/-- "crossroads/crossroadsref08.May": 43 temporaries, 1 parameters, results some [.t 2]. -/
def ac16 : AC :=
  .seq (.reg []
    [⟨some 1, none, .box, [.t 0]⟩,
     ⟨some 2, none, .mov, [.c (.bool false)]⟩])
  (.seq (.reg []
    [⟨some 3, none, .fldA 0, [.t 1]⟩,
     ⟨some 4, none, .load none, [.t 3]⟩,
     ⟨some 5, none, .call 27, [.t 4, .c (.int .i64 1), .c (.int .i64 65535)]⟩,
     ⟨some 6, none, .mov, [.t 5]⟩,
     ⟨some 7, some (6, true), .fldA 2, [.t 1]⟩,
     ⟨some 8, some (6, true), .load none, [.t 7]⟩,
     ⟨some 9, some (6, true), .call 36, [.t 8]⟩,
     ⟨some 10, none, .pick, [.t 6, .t 9, .c (.bool false)]⟩,
     ⟨some 11, none, .mov, [.t 10]⟩,
     ⟨some 12, some (11, true), .fldA 3, [.t 1]⟩,
     ⟨some 13, some (11, true), .load none, [.t 12]⟩,
     ⟨some 14, some (11, true), .call 27, [.t 13, .c (.int .i64 (-1)), .c (.int .i64 9)]⟩,
     ⟨some 15, none, .pick, [.t 11, .t 14, .c (.bool false)]⟩,
     ⟨some 16, none, .mov, [.t 15]⟩,
     ⟨some 17, some (16, true), .fldA 4, [.t 1]⟩,
     ⟨some 18, some (16, true), .load none, [.t 17]⟩,
     ⟨some 19, some (16, true), .fldA 5, [.t 1]⟩,
     ⟨some 20, some (16, true), .load none, [.t 19]⟩,
     ⟨some 21, some (16, true), .call 27, [.t 18, .c (.int .i64 0), .t 20]⟩,
     ⟨some 22, none, .pick, [.t 16, .t 21, .c (.bool false)]⟩,
     ⟨some 23, none, .mov, [.t 22]⟩,
     ⟨some 24, some (23, true), .fldA 5, [.t 1]⟩,
     ⟨some 25, some (23, true), .load none, [.t 24]⟩,
     ⟨some 26, some (23, true), .bin .leq .scal, [.t 25, .c (.int .i64 16777215)]⟩,
     ⟨some 27, none, .pick, [.t 23, .t 26, .c (.bool false)]⟩,
     ⟨some 28, none, .mov, [.t 27]⟩,
     ⟨some 29, some (28, true), .fldA 7, [.t 1]⟩,
     ⟨some 30, some (28, true), .load none, [.t 29]⟩,
     ⟨some 31, some (28, true), .call 27, [.t 30, .c (.int .i64 (-1)), .c (.int .i64 16777215)]⟩,
     ⟨some 32, none, .pick, [.t 28, .t 31, .c (.bool false)]⟩,
     ⟨some 33, none, .mov, [.t 32]⟩,
     ⟨some 34, some (33, true), .fldA 8, [.t 1]⟩,
     ⟨some 35, some (33, true), .load none, [.t 34]⟩,
     ⟨some 36, some (33, true), .call 27, [.t 35, .c (.int .i64 0), .c (.int .i64 16777215)]⟩,
     ⟨some 37, none, .pick, [.t 33, .t 36, .c (.bool false)]⟩,
     ⟨some 38, none, .mov, [.t 37]⟩,
     ⟨some 39, some (38, true), .fldA 9, [.t 1]⟩,
     ⟨some 40, some (38, true), .load none, [.t 39]⟩,
     ⟨some 41, some (38, true), .call 27, [.t 40, .c (.int .i64 (-1)), .c (.int .i64 9)]⟩,
     ⟨some 42, none, .pick, [.t 38, .t 41, .c (.bool false)]⟩,
     ⟨some 2, none, .mov, [.t 42]⟩])
  .ret)
theorem i16 : fnInfo Try.prog 16 = some (43, [.t 2], ac16) := by kernel_rfl
def ac17_1 : AC :=
  .seq (.seq (.reg []
    [⟨some 6, none, .mov, [.t 4]⟩,
     ⟨some 7, none, .fldA 2, [.t 1]⟩,
     ⟨some 8, none, .load none, [.t 7]⟩,
     ⟨some 9, none, .lenL, [.t 8]⟩,
     ⟨some 10, none, .bin .lss .scal, [.t 6, .t 9]⟩])
  (.cond (.t 10)
  .skip
  (.exit 0)))
  (.seq (.block 1 (.reg []
    [⟨some 13, none, .mov, [.t 3]⟩,
     ⟨some 14, none, .fldA 2, [.t 1]⟩,
     ⟨some 15, none, .load none, [.t 14]⟩,
     ⟨some 16, none, .mov, [.t 4]⟩,
     ⟨some 17, none, .idxA 6, [.t 15, .t 16]⟩,
     ⟨some 18, none, .load (some 6), [.t 17]⟩,
     ⟨some 19, none, .call 37, [.t 18]⟩,
     ⟨some 20, none, .bslice 6 74, [.t 19]⟩,
     ⟨some 21, none, .append 6 74 48, [.t 13, .t 20]⟩,
     ⟨some 3, none, .mov, [.t 21]⟩]))
  (.reg []
    [⟨some 11, none, .mov, [.t 4]⟩,
     ⟨some 12, none, .bin .add .scal, [.t 11, .c (.int .i64 1)]⟩,
     ⟨some 4, none, .mov, [.t 12]⟩]))
/-- "crossroads/crossroadslaw08.plain": 46 temporaries, 1 parameters, results some [.c 2 (some 12)]. -/
def ac17 : AC :=
  .seq (.reg []
    [⟨some 1, none, .box, [.t 0]⟩,
     ⟨some 2, none, .alloc [.int .i64 0, .bool false, .nils, .int .i64 0, .int .i64 0, .int .i64 0, .nils, .int .i64 0, .int .i64 0, .int .i64 0, .bool false, .int .u32 0], []⟩])
  (.seq (.reg []
    [⟨some 5, none, .bslice 6 74, []⟩,
     ⟨some 3, none, .mov, [.t 5]⟩])
  (.seq (.seq (.reg []
    [⟨some 4, none, .mov, [.c (.int .i64 0)]⟩])
  (.block 0 (.loop ac17_1)))
  (.seq (.reg []
    [⟨some 22, none, .fldA 0, [.t 1]⟩,
     ⟨some 23, none, .load none, [.t 22]⟩,
     ⟨some 24, none, .fldA 1, [.t 1]⟩,
     ⟨some 25, none, .load none, [.t 24]⟩,
     ⟨some 26, none, .mov, [.t 3]⟩,
     ⟨some 27, none, .fldA 3, [.t 1]⟩,
     ⟨some 28, none, .load none, [.t 27]⟩,
     ⟨some 29, none, .fldA 4, [.t 1]⟩,
     ⟨some 30, none, .load none, [.t 29]⟩,
     ⟨some 31, none, .fldA 5, [.t 1]⟩,
     ⟨some 32, none, .load none, [.t 31]⟩,
     ⟨some 33, none, .fldA 6, [.t 1]⟩,
     ⟨some 34, none, .load none, [.t 33]⟩,
     ⟨some 35, none, .fldA 7, [.t 1]⟩,
     ⟨some 36, none, .load none, [.t 35]⟩,
     ⟨some 37, none, .fldA 8, [.t 1]⟩,
     ⟨some 38, none, .load none, [.t 37]⟩,
     ⟨some 39, none, .fldA 9, [.t 1]⟩,
     ⟨some 40, none, .load none, [.t 39]⟩,
     ⟨some 41, none, .fldA 10, [.t 1]⟩,
     ⟨some 42, none, .load none, [.t 41]⟩,
     ⟨some 43, none, .fldA 11, [.t 1]⟩,
     ⟨some 44, none, .load none, [.t 43]⟩,
     ⟨some 45, none, .build [.int .i64 0, .bool false, .nils, .int .i64 0, .int .i64 0, .int .i64 0, .nils, .int .i64 0, .int .i64 0, .int .i64 0, .bool false, .int .u32 0] [(0, 1), (1, 1), (2, 1), (3, 1), (4, 1), (5, 1), (6, 1), (7, 1), (8, 1), (9, 1), (10, 1), (11, 1)], [.t 23, .t 25, .t 26, .t 28, .t 30, .t 32, .t 34, .t 36, .t 38, .t 40, .t 42, .t 44]⟩,
     ⟨none, none, .store 12, [.t 2, .t 45]⟩])
  .ret)))
theorem i17 : fnInfo Try.prog 17 = some (46, [.c 2 (some 12)], ac17) := by kernel_rfl
/-- "crossroads/rmap.Matches": 57 temporaries, 2 parameters, results some [.t 4]. -/
def ac18 : AC :=
  .seq (.reg []
    [⟨some 2, none, .box, [.t 0]⟩,
     ⟨some 3, none, .box, [.t 1]⟩,
     ⟨some 4, none, .mov, [.c (.bool false)]⟩])
  (.seq (.reg []
    [⟨some 5, none, .mov, [.c (.bool true)]⟩])
  (.seq (.seq (.reg []
    [⟨some 8, none, .fldA 2, [.t 2]⟩,
     ⟨some 9, none, .load none, [.t 8]⟩,
     ⟨some 10, none, .lenL, [.t 9]⟩,
     ⟨some 11, none, .bin .gtr .scal, [.t 10, .c (.int .i64 0)]⟩])
  (.cond (.t 11)
  (.reg []
    [⟨some 13, none, .fldA 2, [.t 2]⟩,
     ⟨some 14, none, .load none, [.t 13]⟩,
     ⟨some 15, none, .fldA 0, [.t 3]⟩,
     ⟨some 16, none, .load (some 2), [.t 15]⟩,
     ⟨some 17, none, .call 38, [.t 14, .t 16]⟩,
     ⟨some 12, none, .mov, [.t 17]⟩,
     ⟨some 18, none, .ext 0, [.t 12]⟩,
     ⟨some 19, none, .ext 1, [.t 12]⟩,
     ⟨some 5, none, .mov, [.t 18]⟩])
  .skip))
  (.seq (.reg []
    [⟨some 20, none, .fldA 3, [.t 2]⟩,
     ⟨some 21, none, .load none, [.t 20]⟩,
     ⟨some 22, none, .bin .eql .scal, [.t 21, .c (.int .i64 (-1))]⟩,
     ⟨some 23, none, .mov, [.t 22]⟩,
     ⟨some 24, some (23, false), .fldA 3, [.t 2]⟩,
     ⟨some 25, some (23, false), .load none, [.t 24]⟩,
     ⟨some 26, some (23, false), .fldA 2, [.t 3]⟩,
     ⟨some 27, some (23, false), .load none, [.t 26]⟩,
     ⟨some 28, some (23, false), .bin .eql .scal, [.t 25, .t 27]⟩,
     ⟨some 29, none, .pick, [.t 23, .c (.bool true), .t 28]⟩,
     ⟨some 6, none, .mov, [.t 29]⟩])
  (.seq (.reg []
    [⟨some 30, none, .fldA 6, [.t 2]⟩,
     ⟨some 31, none, .load none, [.t 30]⟩,
     ⟨some 32, none, .lenL, [.t 31]⟩,
     ⟨some 33, none, .bin .eql .scal, [.t 32, .c (.int .i64 0)]⟩,
     ⟨some 34, none, .mov, [.t 33]⟩,
     ⟨some 35, some (34, false), .fldA 6, [.t 2]⟩,
     ⟨some 36, some (34, false), .load none, [.t 35]⟩,
     ⟨some 37, some (34, false), .fldA 4, [.t 3]⟩,
     ⟨some 38, some (34, false), .load none, [.t 37]⟩,
     ⟨some 39, some (34, false), .call 39, [.t 36, .t 38]⟩,
     ⟨some 40, none, .pick, [.t 34, .c (.bool true), .t 39]⟩,
     ⟨some 7, none, .mov, [.t 40]⟩])
  (.seq (.reg []
    [⟨some 41, none, .mov, [.t 5]⟩,
     ⟨some 42, none, .mov, [.t 41]⟩,
     ⟨some 43, some (42, true), .mov, [.t 6]⟩,
     ⟨some 44, none, .pick, [.t 42, .t 43, .c (.bool false)]⟩,
     ⟨some 45, none, .mov, [.t 44]⟩,
     ⟨some 46, some (45, true), .mov, [.t 7]⟩,
     ⟨some 47, none, .pick, [.t 45, .t 46, .c (.bool false)]⟩,
     ⟨some 48, none, .mov, [.t 47]⟩,
     ⟨some 49, some (48, true), .fldA 3, [.t 3]⟩,
     ⟨some 50, some (48, true), .load none, [.t 49]⟩,
     ⟨some 51, some (48, true), .fldA 4, [.t 2]⟩,
     ⟨some 52, some (48, true), .load none, [.t 51]⟩,
     ⟨some 53, some (48, true), .fldA 5, [.t 2]⟩,
     ⟨some 54, some (48, true), .load none, [.t 53]⟩,
     ⟨some 55, some (48, true), .call 34, [.t 50, .t 52, .t 54]⟩,
     ⟨some 56, none, .pick, [.t 48, .t 55, .c (.bool false)]⟩,
     ⟨some 4, none, .mov, [.t 56]⟩])
  .ret)))))
theorem i18 : fnInfo Try.prog 18 = some (57, [.t 4], ac18) := by kernel_rfl
def ac19_1 : AC :=
  .seq (.seq (.reg []
    [⟨some 47, none, .mov, [.t 8]⟩,
     ⟨some 48, none, .fldA 6, [.t 2]⟩,
     ⟨some 49, none, .load none, [.t 48]⟩,
     ⟨some 50, none, .lenL, [.t 49]⟩,
     ⟨some 51, none, .bin .lss .scal, [.t 47, .t 50]⟩])
  (.cond (.t 51)
  .skip
  (.exit 0)))
  (.seq (.block 1 (.reg [[], [0], [1], [2, 1], [1], [3, 4, 1], [5, 1], [1], [7, 1], [6, 8, 1], [1, 9], [10, 1, 0, 1, 2, 3, 4, 5, 6, 7, 8, 9, 10]]
    [⟨some 54, none, .mov, [.t 7]⟩,
     ⟨some 55, none, .mov, [.t 54]⟩,
     ⟨some 56, some (55, false), .fldA 6, [.t 2]⟩,
     ⟨some 57, some (55, false), .load none, [.t 56]⟩,
     ⟨some 58, some (55, false), .mov, [.t 8]⟩,
     ⟨some 59, some (55, false), .idxA 1, [.t 57, .t 58]⟩,
     ⟨some 60, some (55, false), .load none, [.t 59]⟩,
     ⟨some 61, some (55, false), .fldA 4, [.t 3]⟩,
     ⟨some 62, some (55, false), .load none, [.t 61]⟩,
     ⟨some 63, some (55, false), .bin .eql .scal, [.t 60, .t 62]⟩,
     ⟨some 64, none, .pick, [.t 55, .c (.bool true), .t 63]⟩,
     ⟨some 7, none, .mov, [.t 64]⟩]))
  (.reg []
    [⟨some 52, none, .mov, [.t 8]⟩,
     ⟨some 53, none, .bin .add .scal, [.t 52, .c (.int .i64 1)]⟩,
     ⟨some 8, none, .mov, [.t 53]⟩]))
/-- "crossroads/crossroadsref08.Matches": 66 temporaries, 2 parameters, results some [.t 4]. -/
def ac19 : AC :=
  .seq (.reg []
    [⟨some 2, none, .box, [.t 0]⟩,
     ⟨some 3, none, .box, [.t 1]⟩,
     ⟨some 4, none, .mov, [.c (.bool false)]⟩])
  (.seq (.seq (.reg []
    [⟨some 9, none, .fldA 2, [.t 2]⟩,
     ⟨some 10, none, .load none, [.t 9]⟩,
     ⟨some 11, none, .lenL, [.t 10]⟩,
     ⟨some 12, none, .bin .gtr .scal, [.t 11, .c (.int .i64 0)]⟩])
  (.cond (.t 12)
  (.seq (.reg []
    [⟨some 14, none, .fldA 2, [.t 2]⟩,
     ⟨some 15, none, .load none, [.t 14]⟩,
     ⟨some 16, none, .fldA 0, [.t 3]⟩,
     ⟨some 17, none, .load (some 2), [.t 16]⟩,
     ⟨some 18, none, .call 40, [.t 15, .t 17]⟩,
     ⟨some 13, none, .mov, [.t 18]⟩,
     ⟨some 19, none, .ext 0, [.t 13]⟩,
     ⟨some 20, none, .ext 1, [.t 13]⟩,
     ⟨some 5, none, .mov, [.t 19]⟩,
     ⟨some 6, none, .mov, [.t 20]⟩])
  (.seq (.reg []
    [⟨some 21, none, .mov, [.t 5]⟩,
     ⟨some 22, none, .unNot, [.t 21]⟩])
  (.cond (.t 22)
  (.seq (.reg []
    [⟨some 4, none, .mov, [.c (.bool false)]⟩])
  .ret)
  .skip)))
  .skip))
  (.seq (.seq (.reg []
    [⟨some 23, none, .fldA 3, [.t 2]⟩,
     ⟨some 24, none, .load none, [.t 23]⟩,
     ⟨some 25, none, .bin .neq .scal, [.t 24, .c (.int .i64 (-1))]⟩,
     ⟨some 26, none, .mov, [.t 25]⟩,
     ⟨some 27, some (26, true), .fldA 3, [.t 2]⟩,
     ⟨some 28, some (26, true), .load none, [.t 27]⟩,
     ⟨some 29, some (26, true), .fldA 2, [.t 3]⟩,
     ⟨some 30, some (26, true), .load none, [.t 29]⟩,
     ⟨some 31, some (26, true), .bin .neq .scal, [.t 28, .t 30]⟩,
     ⟨some 32, none, .pick, [.t 26, .t 31, .c (.bool false)]⟩,
     ⟨some 33, none, .mov, [.t 32]⟩,
     ⟨some 34, some (33, false), .fldA 3, [.t 3]⟩,
     ⟨some 35, some (33, false), .load none, [.t 34]⟩,
     ⟨some 36, some (33, false), .fldA 4, [.t 2]⟩,
     ⟨some 37, some (33, false), .load none, [.t 36]⟩,
     ⟨some 38, some (33, false), .fldA 5, [.t 2]⟩,
     ⟨some 39, some (33, false), .load none, [.t 38]⟩,
     ⟨some 40, some (33, false), .call 27, [.t 35, .t 37, .t 39]⟩,
     ⟨some 41, some (33, false), .unNot, [.t 40]⟩,
     ⟨some 42, none, .pick, [.t 33, .c (.bool true), .t 41]⟩])
  (.cond (.t 42)
  (.seq (.reg []
    [⟨some 4, none, .mov, [.c (.bool false)]⟩])
  .ret)
  .skip))
  (.seq (.reg []
    [⟨some 43, none, .fldA 6, [.t 2]⟩,
     ⟨some 44, none, .load none, [.t 43]⟩,
     ⟨some 45, none, .lenL, [.t 44]⟩,
     ⟨some 46, none, .bin .eql .scal, [.t 45, .c (.int .i64 0)]⟩,
     ⟨some 7, none, .mov, [.t 46]⟩])
  (.seq (.seq (.reg []
    [⟨some 8, none, .mov, [.c (.int .i64 0)]⟩])
  (.block 0 (.loop ac19_1)))
  (.seq (.reg []
    [⟨some 65, none, .mov, [.t 7]⟩,
     ⟨some 4, none, .mov, [.t 65]⟩])
  .ret)))))
theorem i19 : fnInfo Try.prog 19 = some (66, [.t 4], ac19) := by kernel_rfl
/-- "crossroads/rmap.Change": 30 temporaries, 2 parameters, results some [.c 4 (some 5)]. -/
def ac20 : AC :=
  .seq (.reg []
    [⟨some 2, none, .box, [.t 0]⟩,
     ⟨some 3, none, .box, [.t 1]⟩,
     ⟨some 4, none, .alloc [.int .u32 0, .int .i64 0, .int .i64 0, .int .i64 0, .int .u32 0], []⟩])
  (.seq (.seq (.reg []
    [⟨some 5, none, .fldA 7, [.t 2]⟩,
     ⟨some 6, none, .load none, [.t 5]⟩,
     ⟨some 7, none, .bin .neq .scal, [.t 6, .c (.int .i64 (-1))]⟩])
  (.cond (.t 7)
  (.reg []
    [⟨some 8, none, .fldA 7, [.t 2]⟩,
     ⟨some 9, none, .load none, [.t 8]⟩,
     ⟨some 10, none, .fldA 3, [.t 3]⟩,
     ⟨none, none, .store 1, [.t 10, .t 9]⟩])
  .skip))
  (.seq (.seq (.reg []
    [⟨some 11, none, .fldA 9, [.t 2]⟩,
     ⟨some 12, none, .load none, [.t 11]⟩,
     ⟨some 13, none, .bin .neq .scal, [.t 12, .c (.int .i64 (-1))]⟩])
  (.cond (.t 13)
  (.reg []
    [⟨some 14, none, .fldA 9, [.t 2]⟩,
     ⟨some 15, none, .load none, [.t 14]⟩,
     ⟨some 16, none, .fldA 2, [.t 3]⟩,
     ⟨none, none, .store 1, [.t 16, .t 15]⟩])
  .skip))
  (.seq (.seq (.reg []
    [⟨some 17, none, .fldA 10, [.t 2]⟩,
     ⟨some 18, none, .load none, [.t 17]⟩])
  (.cond (.t 18)
  (.reg []
    [⟨some 19, none, .fldA 11, [.t 2]⟩,
     ⟨some 20, none, .load none, [.t 19]⟩,
     ⟨some 21, none, .fldA 4, [.t 3]⟩,
     ⟨none, none, .store 1, [.t 21, .t 20]⟩])
  .skip))
  (.seq (.reg []
    [⟨some 22, none, .fldA 3, [.t 3]⟩,
     ⟨some 23, none, .load none, [.t 22]⟩,
     ⟨some 24, none, .fldA 8, [.t 2]⟩,
     ⟨some 25, none, .load none, [.t 24]⟩,
     ⟨some 26, none, .bin .add .scal, [.t 23, .t 25]⟩,
     ⟨some 27, none, .minmax false, [.t 26, .c (.int .i64 16777215)]⟩,
     ⟨some 28, none, .fldA 3, [.t 3]⟩,
     ⟨none, none, .store 1, [.t 28, .t 27]⟩])
  (.seq (.reg []
    [⟨some 29, none, .load (some 5), [.t 3]⟩,
     ⟨none, none, .store 5, [.t 4, .t 29]⟩])
  .ret)))))
theorem i20 : fnInfo Try.prog 20 = some (30, [.c 4 (some 5)], ac20) := by kernel_rfl
/-- "crossroads/crossroadsref08.Change": 30 temporaries, 2 parameters, results some [.c 4 (some 5)]. -/
def ac21 : AC :=
  .seq (.reg []
    [⟨some 2, none, .box, [.t 0]⟩,
     ⟨some 3, none, .box, [.t 1]⟩,
     ⟨some 4, none, .alloc [.int .u32 0, .int .i64 0, .int .i64 0, .int .i64 0, .int .u32 0], []⟩])
  (.seq (.seq (.reg []
    [⟨some 5, none, .fldA 7, [.t 2]⟩,
     ⟨some 6, none, .load none, [.t 5]⟩,
     ⟨some 7, none, .bin .neq .scal, [.t 6, .c (.int .i64 (-1))]⟩])
  (.cond (.t 7)
  (.reg []
    [⟨some 8, none, .fldA 7, [.t 2]⟩,
     ⟨some 9, none, .load none, [.t 8]⟩,
     ⟨some 10, none, .fldA 3, [.t 3]⟩,
     ⟨none, none, .store 1, [.t 10, .t 9]⟩])
  .skip))
  (.seq (.reg []
    [⟨some 11, none, .fldA 3, [.t 3]⟩,
     ⟨some 12, none, .load none, [.t 11]⟩,
     ⟨some 13, none, .fldA 8, [.t 2]⟩,
     ⟨some 14, none, .load none, [.t 13]⟩,
     ⟨some 15, none, .bin .add .scal, [.t 12, .t 14]⟩,
     ⟨some 16, none, .minmax false, [.t 15, .c (.int .i64 16777215)]⟩,
     ⟨some 17, none, .fldA 3, [.t 3]⟩,
     ⟨none, none, .store 1, [.t 17, .t 16]⟩])
  (.seq (.seq (.reg []
    [⟨some 18, none, .fldA 9, [.t 2]⟩,
     ⟨some 19, none, .load none, [.t 18]⟩,
     ⟨some 20, none, .bin .neq .scal, [.t 19, .c (.int .i64 (-1))]⟩])
  (.cond (.t 20)
  (.reg []
    [⟨some 21, none, .fldA 9, [.t 2]⟩,
     ⟨some 22, none, .load none, [.t 21]⟩,
     ⟨some 23, none, .fldA 2, [.t 3]⟩,
     ⟨none, none, .store 1, [.t 23, .t 22]⟩])
  .skip))
  (.seq (.seq (.reg []
    [⟨some 24, none, .fldA 10, [.t 2]⟩,
     ⟨some 25, none, .load none, [.t 24]⟩])
  (.cond (.t 25)
  (.reg []
    [⟨some 26, none, .fldA 11, [.t 2]⟩,
     ⟨some 27, none, .load none, [.t 26]⟩,
     ⟨some 28, none, .fldA 4, [.t 3]⟩,
     ⟨none, none, .store 1, [.t 28, .t 27]⟩])
  .skip))
  (.seq (.reg []
    [⟨some 29, none, .load (some 5), [.t 3]⟩,
     ⟨none, none, .store 5, [.t 4, .t 29]⟩])
  .ret)))))
theorem i21 : fnInfo Try.prog 21 = some (30, [.c 4 (some 5)], ac21) := by kernel_rfl
def ac22_1 : AC :=
  .seq (.seq (.reg []
    [⟨some 8, none, .mov, [.t 7]⟩,
     ⟨some 9, none, .mov, [.t 0]⟩,
     ⟨some 10, none, .lenL, [.t 9]⟩,
     ⟨some 11, none, .bin .lss .scal, [.t 8, .t 10]⟩])
  (.cond (.t 11)
  .skip
  (.exit 0)))
  (.seq (.block 1 (.seq (.reg [[], [], [0, 1], [2], [], [3, 4]]
    [⟨some 14, none, .mov, [.t 0]⟩,
     ⟨some 15, none, .mov, [.t 7]⟩,
     ⟨some 16, none, .idxA 12, [.t 14, .t 15]⟩,
     ⟨some 17, none, .load (some 12), [.t 16]⟩,
     ⟨some 18, none, .load (some 5), [.t 3]⟩,
     ⟨some 19, none, .call 19, [.t 17, .t 18]⟩])
  (.cond (.t 19)
  (.seq (.seq (.reg []
    [⟨some 20, none, .mov, [.t 0]⟩,
     ⟨some 21, none, .mov, [.t 7]⟩,
     ⟨some 22, none, .idxA 12, [.t 20, .t 21]⟩,
     ⟨some 23, none, .fldA 1, [.t 22]⟩,
     ⟨some 24, none, .load none, [.t 23]⟩])
  (.cond (.t 24)
  (.seq (.reg [[], [], [0, 1], [2], [], [3, 4], [], [], [6, 7], [8], [9], [5, 5, 0, 1, 2, 3, 4, 5], [11, 0, 1, 2, 3, 4, 5, 11], [10, 12, 0, 1, 2, 3, 4, 5, 6, 7, 8, 9, 10, 11, 12]]
    [⟨some 25, none, .mov, [.t 0]⟩,
     ⟨some 26, none, .mov, [.t 7]⟩,
     ⟨some 27, none, .idxA 12, [.t 25, .t 26]⟩,
     ⟨some 28, none, .load (some 12), [.t 27]⟩,
     ⟨some 29, none, .load (some 5), [.t 3]⟩,
     ⟨some 30, none, .call 21, [.t 28, .t 29]⟩,
     ⟨some 31, none, .mov, [.t 0]⟩,
     ⟨some 32, none, .mov, [.t 7]⟩,
     ⟨some 33, none, .idxA 12, [.t 31, .t 32]⟩,
     ⟨some 34, none, .fldA 0, [.t 33]⟩,
     ⟨some 35, none, .load none, [.t 34]⟩,
     ⟨none, none, .store 5, [.t 4, .t 30]⟩,
     ⟨some 5, none, .mov, [.c (.bool true)]⟩,
     ⟨some 6, none, .mov, [.t 35]⟩])
  .ret)
  .skip))
  (.seq (.reg [[], [], [], [1, 2], [3], [4], [0, 0], [6, 0, 6], [5, 7, 0, 1, 2, 3, 4, 5, 6, 7]]
    [⟨some 36, none, .build [.int .u32 0, .int .i64 0, .int .i64 0, .int .i64 0, .int .u32 0] [], []⟩,
     ⟨some 37, none, .mov, [.t 0]⟩,
     ⟨some 38, none, .mov, [.t 7]⟩,
     ⟨some 39, none, .idxA 12, [.t 37, .t 38]⟩,
     ⟨some 40, none, .fldA 0, [.t 39]⟩,
     ⟨some 41, none, .load none, [.t 40]⟩,
     ⟨none, none, .store 5, [.t 4, .t 36]⟩,
     ⟨some 5, none, .mov, [.c (.bool false)]⟩,
     ⟨some 6, none, .mov, [.t 41]⟩])
  .ret))
  .skip)))
  (.reg []
    [⟨some 12, none, .mov, [.t 7]⟩,
     ⟨some 13, none, .bin .add .scal, [.t 12, .c (.int .i64 1)]⟩,
     ⟨some 7, none, .mov, [.t 13]⟩]))
/-- "crossroads/crossroadsref08.Eval": 43 temporaries, 2 parameters, results some [.c 4 (some 5), .t 5, .t 6]. -/
def ac22 : AC :=
  .seq (.reg []
    [⟨some 3, none, .box, [.t 1]⟩,
     ⟨some 4, none, .alloc [.int .u32 0, .int .i64 0, .int .i64 0, .int .i64 0, .int .u32 0], []⟩,
     ⟨some 5, none, .mov, [.c (.bool false)]⟩,
     ⟨some 6, none, .mov, [.c (.int .i64 0)]⟩])
  (.seq (.seq (.reg []
    [⟨some 7, none, .mov, [.c (.int .i64 0)]⟩])
  (.block 0 (.loop ac22_1)))
  (.seq (.reg []
    [⟨some 42, none, .build [.int .u32 0, .int .i64 0, .int .i64 0, .int .i64 0, .int .u32 0] [], []⟩,
     ⟨none, none, .store 5, [.t 4, .t 42]⟩,
     ⟨some 5, none, .mov, [.c (.bool false)]⟩,
     ⟨some 6, none, .mov, [.c (.int .i64 0)]⟩])
  .ret))
theorem i22 : fnInfo Try.prog 22 = some (43, [.c 4 (some 5), .t 5, .t 6], ac22) := by kernel_rfl
/-- "crossroads/rmap.Then": 32 temporaries, 3 parameters, results some [.c 6 (some 5), .t 7]. -/
def ac23 : AC :=
  .seq (.reg []
    [⟨some 5, none, .box, [.t 2]⟩,
     ⟨some 6, none, .alloc [.int .u32 0, .int .i64 0, .int .i64 0, .int .i64 0, .int .u32 0], []⟩,
     ⟨some 7, none, .mov, [.c (.bool false)]⟩])
  (.seq (.reg []
    [⟨some 14, none, .mov, [.t 0]⟩,
     ⟨some 15, none, .load (some 5), [.t 5]⟩,
     ⟨some 16, none, .call 13, [.t 14, .t 15]⟩,
     ⟨some 13, none, .mov, [.t 16]⟩,
     ⟨some 17, none, .ext 0, [.t 13]⟩,
     ⟨some 18, none, .ext 1, [.t 13]⟩,
     ⟨some 19, none, .ext 2, [.t 13]⟩,
     ⟨some 8, none, .alloc [.int .u32 0, .int .i64 0, .int .i64 0, .int .i64 0, .int .u32 0], []⟩,
     ⟨none, none, .store 5, [.t 8, .t 17]⟩,
     ⟨some 9, none, .mov, [.t 18]⟩,
     ⟨some 10, none, .mov, [.t 19]⟩])
  (.seq (.seq (.reg []
    [⟨some 20, none, .mov, [.t 9]⟩,
     ⟨some 21, none, .unNot, [.t 20]⟩])
  (.cond (.t 21)
  (.seq (.reg []
    [⟨some 22, none, .build [.int .u32 0, .int .i64 0, .int .i64 0, .int .i64 0, .int .u32 0] [], []⟩,
     ⟨none, none, .store 5, [.t 6, .t 22]⟩,
     ⟨some 7, none, .mov, [.c (.bool false)]⟩])
  .ret)
  .skip))
  (.seq (.reg []
    [⟨some 24, none, .mov, [.t 1]⟩,
     ⟨some 25, none, .load (some 5), [.t 8]⟩,
     ⟨some 26, none, .call 13, [.t 24, .t 25]⟩,
     ⟨some 23, none, .mov, [.t 26]⟩,
     ⟨some 27, none, .ext 0, [.t 23]⟩,
     ⟨some 28, none, .ext 1, [.t 23]⟩,
     ⟨some 29, none, .ext 2, [.t 23]⟩,
     ⟨some 11, none, .alloc [.int .u32 0, .int .i64 0, .int .i64 0, .int .i64 0, .int .u32 0], []⟩,
     ⟨none, none, .store 5, [.t 11, .t 27]⟩,
     ⟨some 9, none, .mov, [.t 28]⟩,
     ⟨some 12, none, .mov, [.t 29]⟩])
  (.seq (.reg []
    [⟨some 30, none, .load (some 5), [.t 11]⟩,
     ⟨some 31, none, .mov, [.t 9]⟩,
     ⟨none, none, .store 5, [.t 6, .t 30]⟩,
     ⟨some 7, none, .mov, [.t 31]⟩])
  .ret))))
theorem i23 : fnInfo Try.prog 23 = some (32, [.c 6 (some 5), .t 7], ac23) := by kernel_rfl
/-- "crossroads/crossroadsref08.Then": 33 temporaries, 3 parameters, results some [.c 6 (some 5), .t 7]. -/
def ac24 : AC :=
  .seq (.reg []
    [⟨some 5, none, .box, [.t 2]⟩,
     ⟨some 6, none, .alloc [.int .u32 0, .int .i64 0, .int .i64 0, .int .i64 0, .int .u32 0], []⟩,
     ⟨some 7, none, .mov, [.c (.bool false)]⟩])
  (.seq (.reg []
    [⟨some 15, none, .mov, [.t 0]⟩,
     ⟨some 16, none, .load (some 5), [.t 5]⟩,
     ⟨some 17, none, .call 22, [.t 15, .t 16]⟩,
     ⟨some 14, none, .mov, [.t 17]⟩,
     ⟨some 18, none, .ext 0, [.t 14]⟩,
     ⟨some 19, none, .ext 1, [.t 14]⟩,
     ⟨some 20, none, .ext 2, [.t 14]⟩,
     ⟨some 8, none, .alloc [.int .u32 0, .int .i64 0, .int .i64 0, .int .i64 0, .int .u32 0], []⟩,
     ⟨none, none, .store 5, [.t 8, .t 18]⟩,
     ⟨some 9, none, .mov, [.t 19]⟩,
     ⟨some 10, none, .mov, [.t 20]⟩])
  (.seq (.seq (.reg []
    [⟨some 21, none, .mov, [.t 9]⟩,
     ⟨some 22, none, .unNot, [.t 21]⟩])
  (.cond (.t 22)
  (.seq (.reg []
    [⟨some 23, none, .build [.int .u32 0, .int .i64 0, .int .i64 0, .int .i64 0, .int .u32 0] [], []⟩,
     ⟨none, none, .store 5, [.t 6, .t 23]⟩,
     ⟨some 7, none, .mov, [.c (.bool false)]⟩])
  .ret)
  .skip))
  (.seq (.reg []
    [⟨some 25, none, .mov, [.t 1]⟩,
     ⟨some 26, none, .load (some 5), [.t 8]⟩,
     ⟨some 27, none, .call 22, [.t 25, .t 26]⟩,
     ⟨some 24, none, .mov, [.t 27]⟩,
     ⟨some 28, none, .ext 0, [.t 24]⟩,
     ⟨some 29, none, .ext 1, [.t 24]⟩,
     ⟨some 30, none, .ext 2, [.t 24]⟩,
     ⟨some 11, none, .alloc [.int .u32 0, .int .i64 0, .int .i64 0, .int .i64 0, .int .u32 0], []⟩,
     ⟨none, none, .store 5, [.t 11, .t 28]⟩,
     ⟨some 12, none, .mov, [.t 29]⟩,
     ⟨some 13, none, .mov, [.t 30]⟩])
  (.seq (.reg []
    [⟨some 31, none, .load (some 5), [.t 11]⟩,
     ⟨some 32, none, .mov, [.t 12]⟩,
     ⟨none, none, .store 5, [.t 6, .t 31]⟩,
     ⟨some 7, none, .mov, [.t 32]⟩])
  .ret))))
theorem i24 : fnInfo Try.prog 24 = some (33, [.c 6 (some 5), .t 7], ac24) := by kernel_rfl
def ac25_1 : AC :=
  .seq (.reg []
    [⟨some 14, none, .bin .lss .scal, [.t 13, .t 12]⟩])
  (.seq (.cond (.t 14)
  .skip
  (.exit 0))
  (.seq (.block 1 (.seq (.reg []
    [⟨some 15, none, .idxA 5, [.t 11, .t 13]⟩,
     ⟨some 16, none, .load (some 5), [.t 15]⟩,
     ⟨some 7, none, .alloc [.int .u32 0, .int .i64 0, .int .i64 0, .int .i64 0, .int .u32 0], []⟩,
     ⟨none, none, .store 5, [.t 7, .t 16]⟩])
  (.seq (.reg []
    [⟨some 18, none, .mov, [.t 0]⟩,
     ⟨some 19, none, .load (some 5), [.t 7]⟩,
     ⟨some 20, none, .call 13, [.t 18, .t 19]⟩,
     ⟨some 17, none, .mov, [.t 20]⟩,
     ⟨some 21, none, .ext 0, [.t 17]⟩,
     ⟨some 22, none, .ext 1, [.t 17]⟩,
     ⟨some 23, none, .ext 2, [.t 17]⟩,
     ⟨some 8, none, .alloc [.int .u32 0, .int .i64 0, .int .i64 0, .int .i64 0, .int .u32 0], []⟩,
     ⟨none, none, .store 5, [.t 8, .t 21]⟩,
     ⟨some 9, none, .mov, [.t 22]⟩,
     ⟨some 10, none, .mov, [.t 23]⟩])
  (.seq (.reg []
    [⟨some 24, none, .mov, [.t 9]⟩])
  (.cond (.t 24)
  (.reg []
    [⟨some 25, none, .mov, [.t 5]⟩,
     ⟨some 26, none, .load (some 5), [.t 8]⟩,
     ⟨some 27, none, .bslice 5 27, [.t 26]⟩,
     ⟨some 28, none, .append 5 27 40, [.t 25, .t 27]⟩,
     ⟨some 5, none, .mov, [.t 28]⟩])
  .skip)))))
  (.reg []
    [⟨some 29, none, .bin .add .scal, [.t 13, .c (.int .i64 1)]⟩,
     ⟨some 13, none, .mov, [.t 29]⟩])))
/-- "crossroads/rmap.Filter": 31 temporaries, 2 parameters, results some [.t 4]. -/
def ac25 : AC :=
  .seq (.reg []
    [⟨some 4, none, .mov, [.c .nils]⟩])
  (.seq (.reg []
    [⟨some 5, none, .mov, [.c .nils]⟩])
  (.seq (.seq (.reg []
    [⟨some 11, none, .mov, [.t 1]⟩,
     ⟨some 12, none, .lenL, [.t 11]⟩,
     ⟨some 13, none, .mov, [.c (.int .i64 0)]⟩])
  (.block 0 (.loop ac25_1)))
  (.seq (.reg []
    [⟨some 30, none, .mov, [.t 5]⟩,
     ⟨some 4, none, .mov, [.t 30]⟩])
  .ret)))
theorem i25 : fnInfo Try.prog 25 = some (31, [.t 4], ac25) := by kernel_rfl
def ac26_1 : AC :=
  .seq (.seq (.reg []
    [⟨some 11, none, .mov, [.t 6]⟩,
     ⟨some 12, none, .mov, [.t 1]⟩,
     ⟨some 13, none, .lenL, [.t 12]⟩,
     ⟨some 14, none, .bin .lss .scal, [.t 11, .t 13]⟩])
  (.cond (.t 14)
  .skip
  (.exit 0)))
  (.seq (.block 1 (.seq (.reg []
    [⟨some 18, none, .mov, [.t 0]⟩,
     ⟨some 19, none, .mov, [.t 1]⟩,
     ⟨some 20, none, .mov, [.t 6]⟩,
     ⟨some 21, none, .idxA 5, [.t 19, .t 20]⟩,
     ⟨some 22, none, .load (some 5), [.t 21]⟩,
     ⟨some 23, none, .call 22, [.t 18, .t 22]⟩,
     ⟨some 17, none, .mov, [.t 23]⟩,
     ⟨some 24, none, .ext 0, [.t 17]⟩,
     ⟨some 25, none, .ext 1, [.t 17]⟩,
     ⟨some 26, none, .ext 2, [.t 17]⟩,
     ⟨some 7, none, .alloc [.int .u32 0, .int .i64 0, .int .i64 0, .int .i64 0, .int .u32 0], []⟩,
     ⟨none, none, .store 5, [.t 7, .t 24]⟩,
     ⟨some 8, none, .mov, [.t 25]⟩,
     ⟨some 9, none, .mov, [.t 26]⟩])
  (.seq (.reg []
    [⟨some 27, none, .mov, [.t 8]⟩])
  (.cond (.t 27)
  (.reg []
    [⟨some 28, none, .mov, [.t 5]⟩,
     ⟨some 29, none, .load (some 5), [.t 7]⟩,
     ⟨some 30, none, .bslice 5 33, [.t 29]⟩,
     ⟨some 31, none, .append 5 33 40, [.t 28, .t 30]⟩,
     ⟨some 5, none, .mov, [.t 31]⟩])
  .skip))))
  (.reg []
    [⟨some 15, none, .mov, [.t 6]⟩,
     ⟨some 16, none, .bin .add .scal, [.t 15, .c (.int .i64 1)]⟩,
     ⟨some 6, none, .mov, [.t 16]⟩]))
/-- "crossroads/crossroadsref08.Filter": 33 temporaries, 2 parameters, results some [.t 4]. -/
def ac26 : AC :=
  .seq (.reg []
    [⟨some 4, none, .mov, [.c .nils]⟩])
  (.seq (.reg []
    [⟨some 10, none, .bslice 5 33, []⟩,
     ⟨some 5, none, .mov, [.t 10]⟩])
  (.seq (.seq (.reg []
    [⟨some 6, none, .mov, [.c (.int .i64 0)]⟩])
  (.block 0 (.loop ac26_1)))
  (.seq (.reg []
    [⟨some 32, none, .mov, [.t 5]⟩,
     ⟨some 4, none, .mov, [.t 32]⟩])
  .ret)))
theorem i26 : fnInfo Try.prog 26 = some (33, [.t 4], ac26) := by kernel_rfl
/-- "crossroads/crossroadsref08.in": 15 temporaries, 3 parameters, results some [.t 6]. -/
def ac27 : AC :=
  .seq (.reg []
    [⟨some 6, none, .mov, [.c (.bool false)]⟩])
  (.seq (.reg []
    [⟨some 7, none, .mov, [.t 0]⟩,
     ⟨some 8, none, .mov, [.t 1]⟩,
     ⟨some 9, none, .bin .geq .scal, [.t 7, .t 8]⟩,
     ⟨some 10, none, .mov, [.t 9]⟩,
     ⟨some 11, some (10, true), .mov, [.t 0]⟩,
     ⟨some 12, some (10, true), .mov, [.t 2]⟩,
     ⟨some 13, some (10, true), .bin .leq .scal, [.t 11, .t 12]⟩,
     ⟨some 14, none, .pick, [.t 10, .t 13, .c (.bool false)]⟩,
     ⟨some 6, none, .mov, [.t 14]⟩])
  .ret)
theorem i27 : fnInfo Try.prog 27 = some (15, [.t 6], ac27) := by kernel_rfl
def ac28_1 : AC :=
  .seq (.reg []
    [⟨some 9, none, .bin .lss .scal, [.t 8, .t 7]⟩])
  (.seq (.cond (.t 9)
  .skip
  (.exit 0))
  (.seq (.block 1 (.seq (.reg []
    [⟨some 10, none, .mov, [.t 8]⟩,
     ⟨some 5, none, .mov, [.t 10]⟩])
  (.seq (.reg []
    [⟨some 11, none, .mov, [.t 1]⟩,
     ⟨some 12, none, .mov, [.t 0]⟩,
     ⟨some 13, none, .mov, [.t 5]⟩,
     ⟨some 14, none, .idxA 12, [.t 12, .t 13]⟩,
     ⟨some 15, none, .load (some 12), [.t 14]⟩,
     ⟨some 16, none, .callv, [.t 11, .t 15]⟩])
  (.cond (.t 16)
  (.seq (.reg []
    [⟨some 17, none, .mov, [.t 5]⟩,
     ⟨some 4, none, .mov, [.t 17]⟩])
  .ret)
  .skip))))
  (.reg []
    [⟨some 18, none, .bin .add .scal, [.t 8, .c (.int .i64 1)]⟩,
     ⟨some 8, none, .mov, [.t 18]⟩])))
/-- "slices.IndexFunc[[]crossroads/rmap.Clause,crossroads/rmap.Clause]": 19 temporaries, 2 parameters, results some [.t 4]. -/
def ac28 : AC :=
  .seq (.reg []
    [⟨some 4, none, .mov, [.c (.int .i64 0)]⟩])
  (.seq (.seq (.reg []
    [⟨some 6, none, .mov, [.t 0]⟩,
     ⟨some 7, none, .lenL, [.t 6]⟩,
     ⟨some 8, none, .mov, [.c (.int .i64 0)]⟩])
  (.block 0 (.loop ac28_1)))
  (.seq (.reg []
    [⟨some 4, none, .mov, [.c (.int .i64 (-1))]⟩])
  .ret))
theorem i28 : fnInfo Try.prog 28 = some (19, [.t 4], ac28) := by kernel_rfl
/-- "crossroads/rmap.Eval$1": 7 temporaries, 1 parameters, results some [.t 3]. -/
def ac29 : AC :=
  .seq (.reg []
    [⟨some 2, none, .box, [.t 0]⟩,
     ⟨some 3, none, .mov, [.c (.bool false)]⟩])
  (.seq (.reg []
    [⟨some 4, none, .load (some 12), [.t 2]⟩,
     ⟨some 5, none, .load (some 5), [.t 1]⟩,
     ⟨some 6, none, .call 18, [.t 4, .t 5]⟩,
     ⟨some 3, none, .mov, [.t 6]⟩])
  .ret)
theorem i29 : fnInfo Try.prog 29 = some (7, [.t 3], ac29) := by kernel_rfl
/-- "crossroads/rmap.MayAll$1": 6 temporaries, 1 parameters, results some [.t 2]. -/
def ac30 : AC :=
  .seq (.reg []
    [⟨some 1, none, .box, [.t 0]⟩,
     ⟨some 2, none, .mov, [.c (.bool false)]⟩])
  (.seq (.reg []
    [⟨some 3, none, .load (some 12), [.t 1]⟩,
     ⟨some 4, none, .call 15, [.t 3]⟩,
     ⟨some 5, none, .unNot, [.t 4]⟩,
     ⟨some 2, none, .mov, [.t 5]⟩])
  .ret)
theorem i30 : fnInfo Try.prog 30 = some (6, [.t 2], ac30) := by kernel_rfl
/-- "slices.ContainsFunc[[]crossroads/rmap.Clause,crossroads/rmap.Clause]": 9 temporaries, 2 parameters, results some [.t 4]. -/
def ac31 : AC :=
  .seq (.reg []
    [⟨some 4, none, .mov, [.c (.bool false)]⟩])
  (.seq (.reg []
    [⟨some 5, none, .mov, [.t 0]⟩,
     ⟨some 6, none, .mov, [.t 1]⟩,
     ⟨some 7, none, .call 28, [.t 5, .t 6]⟩,
     ⟨some 8, none, .bin .geq .scal, [.t 7, .c (.int .i64 0)]⟩,
     ⟨some 4, none, .mov, [.t 8]⟩])
  .ret)
theorem i31 : fnInfo Try.prog 31 = some (9, [.t 4], ac31) := by kernel_rfl
def ac32_1 : AC :=
  .seq (.reg []
    [⟨some 9, none, .bin .lss .scal, [.t 8, .t 7]⟩])
  (.seq (.cond (.t 9)
  .skip
  (.exit 0))
  (.seq (.block 1 (.seq (.reg []
    [⟨some 10, none, .mov, [.t 8]⟩,
     ⟨some 5, none, .mov, [.t 10]⟩])
  (.seq (.reg [[], [0], [1], [2], [2], [2], [4, 5, 2], [6, 2], [3, 7, 2, 2], [2], [2], [2], [11, 2], [10, 12, 2], [13, 2], [9, 14, 8, 2], [8, 15, 2], [2, 16]]
    [⟨some 11, none, .mov, [.t 5]⟩,
     ⟨some 12, none, .bin .gtr .scal, [.t 11, .c (.int .i64 0)]⟩,
     ⟨some 13, none, .mov, [.t 12]⟩,
     ⟨some 14, some (13, true), .mov, [.t 1]⟩,
     ⟨some 15, some (13, true), .mov, [.t 0]⟩,
     ⟨some 16, some (13, true), .mov, [.t 5]⟩,
     ⟨some 17, some (13, true), .idxA 12, [.t 15, .t 16]⟩,
     ⟨some 18, some (13, true), .load (some 12), [.t 17]⟩,
     ⟨some 19, some (13, true), .callv, [.t 14, .t 18]⟩,
     ⟨some 20, some (13, true), .mov, [.t 1]⟩,
     ⟨some 21, some (13, true), .mov, [.t 0]⟩,
     ⟨some 22, some (13, true), .mov, [.t 5]⟩,
     ⟨some 23, some (13, true), .bin .sub .scal, [.t 22, .c (.int .i64 1)]⟩,
     ⟨some 24, some (13, true), .idxA 12, [.t 21, .t 23]⟩,
     ⟨some 25, some (13, true), .load (some 12), [.t 24]⟩,
     ⟨some 26, some (13, true), .callv, [.t 20, .t 25]⟩,
     ⟨some 27, some (13, true), .bin .leq .scal, [.t 19, .t 26]⟩,
     ⟨some 28, none, .pick, [.t 13, .t 27, .c (.bool false)]⟩])
  (.cond (.t 28)
  (.seq (.reg []
    [⟨some 4, none, .mov, [.c (.bool false)]⟩])
  .ret)
  .skip))))
  (.reg []
    [⟨some 29, none, .bin .add .scal, [.t 8, .c (.int .i64 1)]⟩,
     ⟨some 8, none, .mov, [.t 29]⟩])))
/-- "crossroads/rmap.rises[crossroads/rmap.Clause]": 30 temporaries, 2 parameters, results some [.t 4]. -/
def ac32 : AC :=
  .seq (.reg []
    [⟨some 4, none, .mov, [.c (.bool false)]⟩])
  (.seq (.seq (.reg []
    [⟨some 6, none, .mov, [.t 0]⟩,
     ⟨some 7, none, .lenL, [.t 6]⟩,
     ⟨some 8, none, .mov, [.c (.int .i64 0)]⟩])
  (.block 0 (.loop ac32_1)))
  (.seq (.reg []
    [⟨some 4, none, .mov, [.c (.bool true)]⟩])
  .ret))
theorem i32 : fnInfo Try.prog 32 = some (30, [.t 4], ac32) := by kernel_rfl
/-- "crossroads/rmap.MayAll$2": 5 temporaries, 1 parameters, results some [.t 2]. -/
def ac33 : AC :=
  .seq (.reg []
    [⟨some 1, none, .box, [.t 0]⟩,
     ⟨some 2, none, .mov, [.c (.int .i64 0)]⟩])
  (.seq (.reg []
    [⟨some 3, none, .fldA 0, [.t 1]⟩,
     ⟨some 4, none, .load none, [.t 3]⟩,
     ⟨some 2, none, .mov, [.t 4]⟩])
  .ret)
theorem i33 : fnInfo Try.prog 33 = some (5, [.t 2], ac33) := by kernel_rfl
/-- "crossroads/rmap.isIn": 15 temporaries, 3 parameters, results some [.t 6]. -/
def ac34 : AC :=
  .seq (.reg []
    [⟨some 6, none, .mov, [.c (.bool false)]⟩])
  (.seq (.reg []
    [⟨some 7, none, .mov, [.t 1]⟩,
     ⟨some 8, none, .mov, [.t 0]⟩,
     ⟨some 9, none, .bin .leq .scal, [.t 7, .t 8]⟩,
     ⟨some 10, none, .mov, [.t 9]⟩,
     ⟨some 11, some (10, true), .mov, [.t 0]⟩,
     ⟨some 12, some (10, true), .mov, [.t 2]⟩,
     ⟨some 13, some (10, true), .bin .leq .scal, [.t 11, .t 12]⟩,
     ⟨some 14, none, .pick, [.t 10, .t 13, .c (.bool false)]⟩,
     ⟨some 6, none, .mov, [.t 14]⟩])
  .ret)
theorem i34 : fnInfo Try.prog 34 = some (15, [.t 6], ac34) := by kernel_rfl
/-- "crossroads/rmap.isList": 12 temporaries, 1 parameters, results some [.t 2]. -/
def ac35 : AC :=
  .seq (.reg []
    [⟨some 2, none, .mov, [.c (.bool false)]⟩])
  (.seq (.reg []
    [⟨some 3, none, .mov, [.f 41]⟩])
  (.seq (.reg []
    [⟨some 4, none, .mov, [.t 0]⟩,
     ⟨some 5, none, .mov, [.t 3]⟩,
     ⟨some 6, none, .call 43, [.t 4, .t 5]⟩,
     ⟨some 7, none, .unNot, [.t 6]⟩,
     ⟨some 8, none, .mov, [.t 7]⟩,
     ⟨some 9, some (8, true), .mov, [.t 0]⟩,
     ⟨some 10, some (8, true), .call 44, [.t 9, .f 45]⟩,
     ⟨some 11, none, .pick, [.t 8, .t 10, .c (.bool false)]⟩,
     ⟨some 2, none, .mov, [.t 11]⟩])
  .ret))
theorem i35 : fnInfo Try.prog 35 = some (12, [.t 2], ac35) := by kernel_rfl
def ac36_1 : AC :=
  .seq (.seq (.reg []
    [⟨some 4, none, .mov, [.t 3]⟩,
     ⟨some 5, none, .mov, [.t 0]⟩,
     ⟨some 6, none, .lenL, [.t 5]⟩,
     ⟨some 7, none, .bin .lss .scal, [.t 4, .t 6]⟩])
  (.cond (.t 7)
  .skip
  (.exit 0)))
  (.seq (.block 1 (.seq (.reg [[], [], [0, 1], [2], [3], [4], [5, 4], [6], [7, 6], [8, 6, 6], [9], [9], [10, 11, 9], [12, 9], [13, 9], [9], [9], [16, 9], [15, 17, 9], [18, 9], [19, 9], [14, 20, 9], [9, 21, 6], [6, 22]]
    [⟨some 10, none, .mov, [.t 0]⟩,
     ⟨some 11, none, .mov, [.t 3]⟩,
     ⟨some 12, none, .idxA 6, [.t 10, .t 11]⟩,
     ⟨some 13, none, .load (some 6), [.t 12]⟩,
     ⟨some 14, none, .call 46, [.t 13]⟩,
     ⟨some 15, none, .unNot, [.t 14]⟩,
     ⟨some 16, none, .mov, [.t 15]⟩,
     ⟨some 17, some (16, false), .mov, [.t 3]⟩,
     ⟨some 18, some (16, false), .bin .gtr .scal, [.t 17, .c (.int .i64 0)]⟩,
     ⟨some 19, some (16, false), .mov, [.t 18]⟩,
     ⟨some 20, some (19, true), .mov, [.t 0]⟩,
     ⟨some 21, some (19, true), .mov, [.t 3]⟩,
     ⟨some 22, some (19, true), .idxA 6, [.t 20, .t 21]⟩,
     ⟨some 23, some (19, true), .fldA 0, [.t 22]⟩,
     ⟨some 24, some (19, true), .load none, [.t 23]⟩,
     ⟨some 25, some (19, true), .mov, [.t 0]⟩,
     ⟨some 26, some (19, true), .mov, [.t 3]⟩,
     ⟨some 27, some (19, true), .bin .sub .scal, [.t 26, .c (.int .i64 1)]⟩,
     ⟨some 28, some (19, true), .idxA 6, [.t 25, .t 27]⟩,
     ⟨some 29, some (19, true), .fldA 0, [.t 28]⟩,
     ⟨some 30, some (19, true), .load none, [.t 29]⟩,
     ⟨some 31, some (19, true), .bin .leq .scal, [.t 24, .t 30]⟩,
     ⟨some 32, some (16, false), .pick, [.t 19, .t 31, .c (.bool false)]⟩,
     ⟨some 33, none, .pick, [.t 16, .c (.bool true), .t 32]⟩])
  (.cond (.t 33)
  (.seq (.reg []
    [⟨some 2, none, .mov, [.c (.bool false)]⟩])
  .ret)
  .skip)))
  (.reg []
    [⟨some 8, none, .mov, [.t 3]⟩,
     ⟨some 9, none, .bin .add .scal, [.t 8, .c (.int .i64 1)]⟩,
     ⟨some 3, none, .mov, [.t 9]⟩]))
/-- "crossroads/crossroadsref07.MayAll": 34 temporaries, 1 parameters, results some [.t 2]. -/
def ac36 : AC :=
  .seq (.reg []
    [⟨some 2, none, .mov, [.c (.bool false)]⟩])
  (.seq (.seq (.reg []
    [⟨some 3, none, .mov, [.c (.int .i64 0)]⟩])
  (.block 0 (.loop ac36_1)))
  (.seq (.reg []
    [⟨some 2, none, .mov, [.c (.bool true)]⟩])
  .ret))
theorem i36 : fnInfo Try.prog 36 = some (34, [.t 2], ac36) := by kernel_rfl
/-- "crossroads/crossroadslaw08.rule": 14 temporaries, 1 parameters, results some [.c 2 (some 6)]. -/
def ac37 : AC :=
  .seq (.reg []
    [⟨some 1, none, .box, [.t 0]⟩,
     ⟨some 2, none, .alloc [.int .i64 0, .bool false, .int .u32 0, .int .i64 0, .int .i64 0, .int .i64 0], []⟩])
  (.seq (.reg []
    [⟨some 3, none, .fldA 0, [.t 1]⟩,
     ⟨some 4, none, .load none, [.t 3]⟩,
     ⟨some 5, none, .fldA 1, [.t 1]⟩,
     ⟨some 6, none, .load none, [.t 5]⟩,
     ⟨some 7, none, .fldA 2, [.t 1]⟩,
     ⟨some 8, none, .load (some 2), [.t 7]⟩,
     ⟨some 9, none, .fldA 4, [.t 1]⟩,
     ⟨some 10, none, .load none, [.t 9]⟩,
     ⟨some 11, none, .fldA 5, [.t 1]⟩,
     ⟨some 12, none, .load none, [.t 11]⟩,
     ⟨some 13, none, .build [.int .i64 0, .bool false, .int .u32 0, .int .i64 0, .int .i64 0, .int .i64 0] [(0, 1), (1, 1), (2, 2), (4, 1), (5, 1)], [.t 4, .t 6, .t 8, .t 10, .t 12]⟩,
     ⟨none, none, .store 6, [.t 2, .t 13]⟩])
  .ret)
theorem i37 : fnInfo Try.prog 37 = some (14, [.c 2 (some 6)], ac37) := by kernel_rfl
/-- "crossroads/plist.Eval": 22 temporaries, 2 parameters, results some [.t 4, .t 5]. -/
def ac38 : AC :=
  .seq (.reg []
    [⟨some 3, none, .box, [.t 1]⟩,
     ⟨some 4, none, .mov, [.c (.bool false)]⟩,
     ⟨some 5, none, .mov, [.c (.int .i64 0)]⟩])
  (.seq (.reg []
    [⟨some 7, none, .mov, [.t 0]⟩,
     ⟨some 8, none, .mkfn 48 0, [.t 3]⟩,
     ⟨some 9, none, .call 47, [.t 7, .t 8]⟩,
     ⟨some 6, none, .mov, [.t 9]⟩])
  (.seq (.seq (.reg []
    [⟨some 10, none, .mov, [.t 6]⟩,
     ⟨some 11, none, .bin .lss .scal, [.t 10, .c (.int .i64 0)]⟩])
  (.cond (.t 11)
  (.seq (.reg []
    [⟨some 4, none, .mov, [.c (.bool false)]⟩,
     ⟨some 5, none, .mov, [.c (.int .i64 0)]⟩])
  .ret)
  .skip))
  (.seq (.reg [[], [], [0, 1], [2], [3], [], [], [5, 6], [7], [8], [4, 0, 1, 2, 3, 4], [9, 10, 0, 1, 2, 3, 4, 5, 6, 7, 8, 9, 10]]
    [⟨some 12, none, .mov, [.t 0]⟩,
     ⟨some 13, none, .mov, [.t 6]⟩,
     ⟨some 14, none, .idxA 6, [.t 12, .t 13]⟩,
     ⟨some 15, none, .fldA 1, [.t 14]⟩,
     ⟨some 16, none, .load none, [.t 15]⟩,
     ⟨some 17, none, .mov, [.t 0]⟩,
     ⟨some 18, none, .mov, [.t 6]⟩,
     ⟨some 19, none, .idxA 6, [.t 17, .t 18]⟩,
     ⟨some 20, none, .fldA 0, [.t 19]⟩,
     ⟨some 21, none, .load none, [.t 20]⟩,
     ⟨some 4, none, .mov, [.t 16]⟩,
     ⟨some 5, none, .mov, [.t 21]⟩])
  .ret)))
theorem i38 : fnInfo Try.prog 38 = some (22, [.t 4, .t 5], ac38) := by kernel_rfl
/-- "slices.Contains[[]uint32,uint32]": 9 temporaries, 2 parameters, results some [.t 4]. -/
def ac39 : AC :=
  .seq (.reg []
    [⟨some 4, none, .mov, [.c (.bool false)]⟩])
  (.seq (.reg []
    [⟨some 5, none, .mov, [.t 0]⟩,
     ⟨some 6, none, .mov, [.t 1]⟩,
     ⟨some 7, none, .call 50, [.t 5, .t 6]⟩,
     ⟨some 8, none, .bin .geq .scal, [.t 7, .c (.int .i64 0)]⟩,
     ⟨some 4, none, .mov, [.t 8]⟩])
  .ret)
theorem i39 : fnInfo Try.prog 39 = some (9, [.t 4], ac39) := by kernel_rfl
def ac40_1 : AC :=
  .seq (.seq (.reg []
    [⟨some 7, none, .mov, [.t 6]⟩,
     ⟨some 8, none, .mov, [.t 0]⟩,
     ⟨some 9, none, .lenL, [.t 8]⟩,
     ⟨some 10, none, .bin .lss .scal, [.t 7, .t 9]⟩])
  (.cond (.t 10)
  .skip
  (.exit 0)))
  (.seq (.block 1 (.seq (.reg [[], [], [0, 1], [2], [], [3, 4]]
    [⟨some 13, none, .mov, [.t 0]⟩,
     ⟨some 14, none, .mov, [.t 6]⟩,
     ⟨some 15, none, .idxA 6, [.t 13, .t 14]⟩,
     ⟨some 16, none, .load (some 6), [.t 15]⟩,
     ⟨some 17, none, .load (some 2), [.t 3]⟩,
     ⟨some 18, none, .call 51, [.t 16, .t 17]⟩])
  (.cond (.t 18)
  (.seq (.reg [[], [], [0, 1], [2], [3], [], [], [5, 6], [7], [8], [4, 0, 1, 2, 3, 4], [9, 10, 0, 1, 2, 3, 4, 5, 6, 7, 8, 9, 10]]
    [⟨some 19, none, .mov, [.t 0]⟩,
     ⟨some 20, none, .mov, [.t 6]⟩,
     ⟨some 21, none, .idxA 6, [.t 19, .t 20]⟩,
     ⟨some 22, none, .fldA 1, [.t 21]⟩,
     ⟨some 23, none, .load none, [.t 22]⟩,
     ⟨some 24, none, .mov, [.t 0]⟩,
     ⟨some 25, none, .mov, [.t 6]⟩,
     ⟨some 26, none, .idxA 6, [.t 24, .t 25]⟩,
     ⟨some 27, none, .fldA 0, [.t 26]⟩,
     ⟨some 28, none, .load none, [.t 27]⟩,
     ⟨some 4, none, .mov, [.t 23]⟩,
     ⟨some 5, none, .mov, [.t 28]⟩])
  .ret)
  .skip)))
  (.reg []
    [⟨some 11, none, .mov, [.t 6]⟩,
     ⟨some 12, none, .bin .add .scal, [.t 11, .c (.int .i64 1)]⟩,
     ⟨some 6, none, .mov, [.t 12]⟩]))
/-- "crossroads/crossroadsref07.Eval": 29 temporaries, 2 parameters, results some [.t 4, .t 5]. -/
def ac40 : AC :=
  .seq (.reg []
    [⟨some 3, none, .box, [.t 1]⟩,
     ⟨some 4, none, .mov, [.c (.bool false)]⟩,
     ⟨some 5, none, .mov, [.c (.int .i64 0)]⟩])
  (.seq (.seq (.reg []
    [⟨some 6, none, .mov, [.c (.int .i64 0)]⟩])
  (.block 0 (.loop ac40_1)))
  (.seq (.reg []
    [⟨some 4, none, .mov, [.c (.bool false)]⟩,
     ⟨some 5, none, .mov, [.c (.int .i64 0)]⟩])
  .ret))
theorem i40 : fnInfo Try.prog 40 = some (29, [.t 4, .t 5], ac40) := by kernel_rfl
/-- "crossroads/rmap.isList$1": 6 temporaries, 1 parameters, results some [.t 2]. -/
def ac41 : AC :=
  .seq (.reg []
    [⟨some 1, none, .box, [.t 0]⟩,
     ⟨some 2, none, .mov, [.c (.bool false)]⟩])
  (.seq (.reg []
    [⟨some 3, none, .load (some 6), [.t 1]⟩,
     ⟨some 4, none, .call 42, [.t 3]⟩,
     ⟨some 5, none, .unNot, [.t 4]⟩,
     ⟨some 2, none, .mov, [.t 5]⟩])
  .ret)
theorem i41 : fnInfo Try.prog 41 = some (6, [.t 2], ac41) := by kernel_rfl
/-- "crossroads/plist.May": 58 temporaries, 1 parameters, results some [.t 2]. -/
def ac42 : AC :=
  .seq (.reg []
    [⟨some 1, none, .box, [.t 0]⟩,
     ⟨some 2, none, .mov, [.c (.bool false)]⟩])
  (.seq (.seq (.reg []
    [⟨some 5, none, .fldA 0, [.t 1]⟩,
     ⟨some 6, none, .load none, [.t 5]⟩,
     ⟨some 7, none, .bin .lss .scal, [.t 6, .c (.int .i64 1)]⟩,
     ⟨some 8, none, .mov, [.t 7]⟩,
     ⟨some 9, some (8, false), .fldA 0, [.t 1]⟩,
     ⟨some 10, some (8, false), .load none, [.t 9]⟩,
     ⟨some 11, some (8, false), .bin .gtr .scal, [.t 10, .c (.int .i64 65535)]⟩,
     ⟨some 12, none, .pick, [.t 8, .c (.bool true), .t 11]⟩,
     ⟨some 13, none, .mov, [.t 12]⟩,
     ⟨some 14, some (13, false), .fldA 2, [.t 1]⟩,
     ⟨some 15, some (13, false), .load (some 2), [.t 14]⟩,
     ⟨some 16, some (13, false), .call 52, [.t 15]⟩,
     ⟨some 17, some (13, false), .unNot, [.t 16]⟩,
     ⟨some 18, none, .pick, [.t 13, .c (.bool true), .t 17]⟩])
  (.cond (.t 18)
  (.seq (.reg []
    [⟨some 2, none, .mov, [.c (.bool false)]⟩])
  .ret)
  .skip))
  (.seq (.reg []
    [⟨some 19, none, .fldA 4, [.t 1]⟩,
     ⟨some 20, none, .load none, [.t 19]⟩,
     ⟨some 21, none, .bin .eql .scal, [.t 20, .c (.int .i64 0)]⟩,
     ⟨some 22, none, .mov, [.t 21]⟩,
     ⟨some 23, some (22, false), .fldA 4, [.t 1]⟩,
     ⟨some 24, some (22, false), .load none, [.t 23]⟩,
     ⟨some 25, some (22, false), .fldA 2, [.t 1]⟩,
     ⟨some 26, some (22, false), .fldA 1, [.t 25]⟩,
     ⟨some 27, some (22, false), .load none, [.t 26]⟩,
     ⟨some 28, some (22, false), .bin .gtr .scal, [.t 24, .t 27]⟩,
     ⟨some 29, some (22, false), .mov, [.t 28]⟩,
     ⟨some 30, some (29, true), .fldA 4, [.t 1]⟩,
     ⟨some 31, some (29, true), .load none, [.t 30]⟩,
     ⟨some 32, some (29, true), .bin .leq .scal, [.t 31, .c (.int .i64 32)]⟩,
     ⟨some 33, some (22, false), .pick, [.t 29, .t 32, .c (.bool false)]⟩,
     ⟨some 34, none, .pick, [.t 22, .c (.bool true), .t 33]⟩,
     ⟨some 3, none, .mov, [.t 34]⟩])
  (.seq (.reg []
    [⟨some 35, none, .fldA 5, [.t 1]⟩,
     ⟨some 36, none, .load none, [.t 35]⟩,
     ⟨some 37, none, .bin .eql .scal, [.t 36, .c (.int .i64 0)]⟩,
     ⟨some 38, none, .mov, [.t 37]⟩,
     ⟨some 39, some (38, false), .fldA 5, [.t 1]⟩,
     ⟨some 40, some (38, false), .load none, [.t 39]⟩,
     ⟨some 41, some (38, false), .fldA 4, [.t 1]⟩,
     ⟨some 42, some (38, false), .load none, [.t 41]⟩,
     ⟨some 43, some (38, false), .fldA 2, [.t 1]⟩,
     ⟨some 44, some (38, false), .fldA 1, [.t 43]⟩,
     ⟨some 45, some (38, false), .load none, [.t 44]⟩,
     ⟨some 46, some (38, false), .minmax true, [.t 42, .t 45]⟩,
     ⟨some 47, some (38, false), .bin .geq .scal, [.t 40, .t 46]⟩,
     ⟨some 48, some (38, false), .mov, [.t 47]⟩,
     ⟨some 49, some (48, true), .fldA 5, [.t 1]⟩,
     ⟨some 50, some (48, true), .load none, [.t 49]⟩,
     ⟨some 51, some (48, true), .bin .leq .scal, [.t 50, .c (.int .i64 32)]⟩,
     ⟨some 52, some (38, false), .pick, [.t 48, .t 51, .c (.bool false)]⟩,
     ⟨some 53, none, .pick, [.t 38, .c (.bool true), .t 52]⟩,
     ⟨some 4, none, .mov, [.t 53]⟩])
  (.seq (.reg []
    [⟨some 54, none, .mov, [.t 3]⟩,
     ⟨some 55, none, .mov, [.t 54]⟩,
     ⟨some 56, some (55, true), .mov, [.t 4]⟩,
     ⟨some 57, none, .pick, [.t 55, .t 56, .c (.bool false)]⟩,
     ⟨some 2, none, .mov, [.t 57]⟩])
  .ret))))
theorem i42 : fnInfo Try.prog 42 = some (58, [.t 2], ac42) := by kernel_rfl
/-- "slices.ContainsFunc[[]crossroads/plist.Rule,crossroads/plist.Rule]": 9 temporaries, 2 parameters, results some [.t 4]. -/
def ac43 : AC :=
  .seq (.reg []
    [⟨some 4, none, .mov, [.c (.bool false)]⟩])
  (.seq (.reg []
    [⟨some 5, none, .mov, [.t 0]⟩,
     ⟨some 6, none, .mov, [.t 1]⟩,
     ⟨some 7, none, .call 47, [.t 5, .t 6]⟩,
     ⟨some 8, none, .bin .geq .scal, [.t 7, .c (.int .i64 0)]⟩,
     ⟨some 4, none, .mov, [.t 8]⟩])
  .ret)
theorem i43 : fnInfo Try.prog 43 = some (9, [.t 4], ac43) := by kernel_rfl
def ac44_1 : AC :=
  .seq (.reg []
    [⟨some 9, none, .bin .lss .scal, [.t 8, .t 7]⟩])
  (.seq (.cond (.t 9)
  .skip
  (.exit 0))
  (.seq (.block 1 (.seq (.reg []
    [⟨some 10, none, .mov, [.t 8]⟩,
     ⟨some 5, none, .mov, [.t 10]⟩])
  (.seq (.reg [[], [0], [1], [2], [2], [2], [4, 5, 2], [6, 2], [3, 7, 2, 2], [2], [2], [2], [11, 2], [10, 12, 2], [13, 2], [9, 14, 8, 2], [8, 15, 2], [2, 16]]
    [⟨some 11, none, .mov, [.t 5]⟩,
     ⟨some 12, none, .bin .gtr .scal, [.t 11, .c (.int .i64 0)]⟩,
     ⟨some 13, none, .mov, [.t 12]⟩,
     ⟨some 14, some (13, true), .mov, [.t 1]⟩,
     ⟨some 15, some (13, true), .mov, [.t 0]⟩,
     ⟨some 16, some (13, true), .mov, [.t 5]⟩,
     ⟨some 17, some (13, true), .idxA 6, [.t 15, .t 16]⟩,
     ⟨some 18, some (13, true), .load (some 6), [.t 17]⟩,
     ⟨some 19, some (13, true), .callv, [.t 14, .t 18]⟩,
     ⟨some 20, some (13, true), .mov, [.t 1]⟩,
     ⟨some 21, some (13, true), .mov, [.t 0]⟩,
     ⟨some 22, some (13, true), .mov, [.t 5]⟩,
     ⟨some 23, some (13, true), .bin .sub .scal, [.t 22, .c (.int .i64 1)]⟩,
     ⟨some 24, some (13, true), .idxA 6, [.t 21, .t 23]⟩,
     ⟨some 25, some (13, true), .load (some 6), [.t 24]⟩,
     ⟨some 26, some (13, true), .callv, [.t 20, .t 25]⟩,
     ⟨some 27, some (13, true), .bin .leq .scal, [.t 19, .t 26]⟩,
     ⟨some 28, none, .pick, [.t 13, .t 27, .c (.bool false)]⟩])
  (.cond (.t 28)
  (.seq (.reg []
    [⟨some 4, none, .mov, [.c (.bool false)]⟩])
  .ret)
  .skip))))
  (.reg []
    [⟨some 29, none, .bin .add .scal, [.t 8, .c (.int .i64 1)]⟩,
     ⟨some 8, none, .mov, [.t 29]⟩])))
/-- "crossroads/rmap.rises[crossroads/plist.Rule]": 30 temporaries, 2 parameters, results some [.t 4]. -/
def ac44 : AC :=
  .seq (.reg []
    [⟨some 4, none, .mov, [.c (.bool false)]⟩])
  (.seq (.seq (.reg []
    [⟨some 6, none, .mov, [.t 0]⟩,
     ⟨some 7, none, .lenL, [.t 6]⟩,
     ⟨some 8, none, .mov, [.c (.int .i64 0)]⟩])
  (.block 0 (.loop ac44_1)))
  (.seq (.reg []
    [⟨some 4, none, .mov, [.c (.bool true)]⟩])
  .ret))
theorem i44 : fnInfo Try.prog 44 = some (30, [.t 4], ac44) := by kernel_rfl
/-- "crossroads/rmap.isList$2": 5 temporaries, 1 parameters, results some [.t 2]. -/
def ac45 : AC :=
  .seq (.reg []
    [⟨some 1, none, .box, [.t 0]⟩,
     ⟨some 2, none, .mov, [.c (.int .i64 0)]⟩])
  (.seq (.reg []
    [⟨some 3, none, .fldA 0, [.t 1]⟩,
     ⟨some 4, none, .load none, [.t 3]⟩,
     ⟨some 2, none, .mov, [.t 4]⟩])
  .ret)
theorem i45 : fnInfo Try.prog 45 = some (5, [.t 2], ac45) := by kernel_rfl
/-- "crossroads/crossroadsref07.May": 56 temporaries, 1 parameters, results some [.t 2]. -/
def ac46 : AC :=
  .seq (.reg []
    [⟨some 1, none, .box, [.t 0]⟩,
     ⟨some 2, none, .mov, [.c (.bool false)]⟩])
  (.seq (.seq (.reg []
    [⟨some 3, none, .fldA 0, [.t 1]⟩,
     ⟨some 4, none, .load none, [.t 3]⟩,
     ⟨some 5, none, .bin .lss .scal, [.t 4, .c (.int .i64 1)]⟩,
     ⟨some 6, none, .mov, [.t 5]⟩,
     ⟨some 7, some (6, false), .fldA 0, [.t 1]⟩,
     ⟨some 8, some (6, false), .load none, [.t 7]⟩,
     ⟨some 9, some (6, false), .bin .gtr .scal, [.t 8, .c (.int .i64 65535)]⟩,
     ⟨some 10, none, .pick, [.t 6, .c (.bool true), .t 9]⟩,
     ⟨some 11, none, .mov, [.t 10]⟩,
     ⟨some 12, some (11, false), .fldA 2, [.t 1]⟩,
     ⟨some 13, some (11, false), .load (some 2), [.t 12]⟩,
     ⟨some 14, some (11, false), .call 53, [.t 13]⟩,
     ⟨some 15, some (11, false), .unNot, [.t 14]⟩,
     ⟨some 16, none, .pick, [.t 11, .c (.bool true), .t 15]⟩])
  (.cond (.t 16)
  (.seq (.reg []
    [⟨some 2, none, .mov, [.c (.bool false)]⟩])
  .ret)
  .skip))
  (.seq (.seq (.reg []
    [⟨some 17, none, .fldA 4, [.t 1]⟩,
     ⟨some 18, none, .load none, [.t 17]⟩,
     ⟨some 19, none, .bin .neq .scal, [.t 18, .c (.int .i64 0)]⟩,
     ⟨some 20, none, .mov, [.t 19]⟩,
     ⟨some 21, some (20, true), .fldA 4, [.t 1]⟩,
     ⟨some 22, some (20, true), .load none, [.t 21]⟩,
     ⟨some 23, some (20, true), .fldA 2, [.t 1]⟩,
     ⟨some 24, some (20, true), .fldA 1, [.t 23]⟩,
     ⟨some 25, some (20, true), .load none, [.t 24]⟩,
     ⟨some 26, some (20, true), .bin .leq .scal, [.t 22, .t 25]⟩,
     ⟨some 27, some (20, true), .mov, [.t 26]⟩,
     ⟨some 28, some (27, false), .fldA 4, [.t 1]⟩,
     ⟨some 29, some (27, false), .load none, [.t 28]⟩,
     ⟨some 30, some (27, false), .bin .gtr .scal, [.t 29, .c (.int .i64 32)]⟩,
     ⟨some 31, some (20, true), .pick, [.t 27, .c (.bool true), .t 30]⟩,
     ⟨some 32, none, .pick, [.t 20, .t 31, .c (.bool false)]⟩])
  (.cond (.t 32)
  (.seq (.reg []
    [⟨some 2, none, .mov, [.c (.bool false)]⟩])
  .ret)
  .skip))
  (.seq (.reg []
    [⟨some 33, none, .fldA 5, [.t 1]⟩,
     ⟨some 34, none, .load none, [.t 33]⟩,
     ⟨some 35, none, .bin .eql .scal, [.t 34, .c (.int .i64 0)]⟩,
     ⟨some 36, none, .mov, [.t 35]⟩,
     ⟨some 37, some (36, false), .fldA 5, [.t 1]⟩,
     ⟨some 38, some (36, false), .load none, [.t 37]⟩,
     ⟨some 39, some (36, false), .fldA 4, [.t 1]⟩,
     ⟨some 40, some (36, false), .load none, [.t 39]⟩,
     ⟨some 41, some (36, false), .bin .geq .scal, [.t 38, .t 40]⟩,
     ⟨some 42, some (36, false), .mov, [.t 41]⟩,
     ⟨some 43, some (42, true), .fldA 5, [.t 1]⟩,
     ⟨some 44, some (42, true), .load none, [.t 43]⟩,
     ⟨some 45, some (42, true), .fldA 2, [.t 1]⟩,
     ⟨some 46, some (42, true), .fldA 1, [.t 45]⟩,
     ⟨some 47, some (42, true), .load none, [.t 46]⟩,
     ⟨some 48, some (42, true), .bin .geq .scal, [.t 44, .t 47]⟩,
     ⟨some 49, some (36, false), .pick, [.t 42, .t 48, .c (.bool false)]⟩,
     ⟨some 50, some (36, false), .mov, [.t 49]⟩,
     ⟨some 51, some (50, true), .fldA 5, [.t 1]⟩,
     ⟨some 52, some (50, true), .load none, [.t 51]⟩,
     ⟨some 53, some (50, true), .bin .leq .scal, [.t 52, .c (.int .i64 32)]⟩,
     ⟨some 54, some (36, false), .pick, [.t 50, .t 53, .c (.bool false)]⟩,
     ⟨some 55, none, .pick, [.t 36, .c (.bool true), .t 54]⟩,
     ⟨some 2, none, .mov, [.t 55]⟩])
  .ret)))
theorem i46 : fnInfo Try.prog 46 = some (56, [.t 2], ac46) := by kernel_rfl
def ac47_1 : AC :=
  .seq (.reg []
    [⟨some 9, none, .bin .lss .scal, [.t 8, .t 7]⟩])
  (.seq (.cond (.t 9)
  .skip
  (.exit 0))
  (.seq (.block 1 (.seq (.reg []
    [⟨some 10, none, .mov, [.t 8]⟩,
     ⟨some 5, none, .mov, [.t 10]⟩])
  (.seq (.reg []
    [⟨some 11, none, .mov, [.t 1]⟩,
     ⟨some 12, none, .mov, [.t 0]⟩,
     ⟨some 13, none, .mov, [.t 5]⟩,
     ⟨some 14, none, .idxA 6, [.t 12, .t 13]⟩,
     ⟨some 15, none, .load (some 6), [.t 14]⟩,
     ⟨some 16, none, .callv, [.t 11, .t 15]⟩])
  (.cond (.t 16)
  (.seq (.reg []
    [⟨some 17, none, .mov, [.t 5]⟩,
     ⟨some 4, none, .mov, [.t 17]⟩])
  .ret)
  .skip))))
  (.reg []
    [⟨some 18, none, .bin .add .scal, [.t 8, .c (.int .i64 1)]⟩,
     ⟨some 8, none, .mov, [.t 18]⟩])))
/-- "slices.IndexFunc[[]crossroads/plist.Rule,crossroads/plist.Rule]": 19 temporaries, 2 parameters, results some [.t 4]. -/
def ac47 : AC :=
  .seq (.reg []
    [⟨some 4, none, .mov, [.c (.int .i64 0)]⟩])
  (.seq (.seq (.reg []
    [⟨some 6, none, .mov, [.t 0]⟩,
     ⟨some 7, none, .lenL, [.t 6]⟩,
     ⟨some 8, none, .mov, [.c (.int .i64 0)]⟩])
  (.block 0 (.loop ac47_1)))
  (.seq (.reg []
    [⟨some 4, none, .mov, [.c (.int .i64 (-1))]⟩])
  .ret))
theorem i47 : fnInfo Try.prog 47 = some (19, [.t 4], ac47) := by kernel_rfl
/-- "crossroads/plist.Eval$1": 7 temporaries, 1 parameters, results some [.t 3]. -/
def ac48 : AC :=
  .seq (.reg []
    [⟨some 2, none, .box, [.t 0]⟩,
     ⟨some 3, none, .mov, [.c (.bool false)]⟩])
  (.seq (.reg []
    [⟨some 4, none, .load (some 6), [.t 2]⟩,
     ⟨some 5, none, .load (some 2), [.t 1]⟩,
     ⟨some 6, none, .call 49, [.t 4, .t 5]⟩,
     ⟨some 3, none, .mov, [.t 6]⟩])
  .ret)
theorem i48 : fnInfo Try.prog 48 = some (7, [.t 3], ac48) := by kernel_rfl
/-- "crossroads/plist.Means": 32 temporaries, 2 parameters, results some [.t 4]. -/
def ac49 : AC :=
  .seq (.reg []
    [⟨some 2, none, .box, [.t 0]⟩,
     ⟨some 3, none, .box, [.t 1]⟩,
     ⟨some 4, none, .mov, [.c (.bool false)]⟩])
  (.seq (.reg []
    [⟨some 8, none, .load (some 6), [.t 2]⟩,
     ⟨some 9, none, .call 54, [.t 8]⟩,
     ⟨some 7, none, .mov, [.t 9]⟩,
     ⟨some 10, none, .ext 0, [.t 7]⟩,
     ⟨some 11, none, .ext 1, [.t 7]⟩,
     ⟨some 5, none, .mov, [.t 10]⟩,
     ⟨some 6, none, .mov, [.t 11]⟩])
  (.seq (.reg []
    [⟨some 12, none, .load (some 6), [.t 2]⟩,
     ⟨some 13, none, .call 42, [.t 12]⟩,
     ⟨some 14, none, .mov, [.t 13]⟩,
     ⟨some 15, some (14, true), .fldA 2, [.t 2]⟩,
     ⟨some 16, some (14, true), .load (some 2), [.t 15]⟩,
     ⟨some 17, some (14, true), .load (some 2), [.t 3]⟩,
     ⟨some 18, some (14, true), .call 55, [.t 16, .t 17]⟩,
     ⟨some 19, none, .pick, [.t 14, .t 18, .c (.bool false)]⟩,
     ⟨some 20, none, .mov, [.t 19]⟩,
     ⟨some 21, some (20, true), .fldA 1, [.t 3]⟩,
     ⟨some 22, some (20, true), .load none, [.t 21]⟩,
     ⟨some 23, some (20, true), .mov, [.t 5]⟩,
     ⟨some 24, some (20, true), .bin .geq .scal, [.t 22, .t 23]⟩,
     ⟨some 25, none, .pick, [.t 20, .t 24, .c (.bool false)]⟩,
     ⟨some 26, none, .mov, [.t 25]⟩,
     ⟨some 27, some (26, true), .fldA 1, [.t 3]⟩,
     ⟨some 28, some (26, true), .load none, [.t 27]⟩,
     ⟨some 29, some (26, true), .mov, [.t 6]⟩,
     ⟨some 30, some (26, true), .bin .leq .scal, [.t 28, .t 29]⟩,
     ⟨some 31, none, .pick, [.t 26, .t 30, .c (.bool false)]⟩,
     ⟨some 4, none, .mov, [.t 31]⟩])
  .ret))
theorem i49 : fnInfo Try.prog 49 = some (32, [.t 4], ac49) := by kernel_rfl
def ac50_1 : AC :=
  .seq (.reg []
    [⟨some 9, none, .bin .lss .scal, [.t 8, .t 7]⟩])
  (.seq (.cond (.t 9)
  .skip
  (.exit 0))
  (.seq (.block 1 (.seq (.reg []
    [⟨some 10, none, .mov, [.t 8]⟩,
     ⟨some 5, none, .mov, [.t 10]⟩])
  (.seq (.reg []
    [⟨some 11, none, .mov, [.t 1]⟩,
     ⟨some 12, none, .mov, [.t 0]⟩,
     ⟨some 13, none, .mov, [.t 5]⟩,
     ⟨some 14, none, .idxA 1, [.t 12, .t 13]⟩,
     ⟨some 15, none, .load none, [.t 14]⟩,
     ⟨some 16, none, .bin .eql .scal, [.t 11, .t 15]⟩])
  (.cond (.t 16)
  (.seq (.reg []
    [⟨some 17, none, .mov, [.t 5]⟩,
     ⟨some 4, none, .mov, [.t 17]⟩])
  .ret)
  .skip))))
  (.reg []
    [⟨some 18, none, .bin .add .scal, [.t 8, .c (.int .i64 1)]⟩,
     ⟨some 8, none, .mov, [.t 18]⟩])))
/-- "slices.Index[[]uint32,uint32]": 19 temporaries, 2 parameters, results some [.t 4]. -/
def ac50 : AC :=
  .seq (.reg []
    [⟨some 4, none, .mov, [.c (.int .i64 0)]⟩])
  (.seq (.seq (.reg []
    [⟨some 6, none, .mov, [.t 0]⟩,
     ⟨some 7, none, .lenL, [.t 6]⟩,
     ⟨some 8, none, .mov, [.c (.int .i64 0)]⟩])
  (.block 0 (.loop ac50_1)))
  (.seq (.reg []
    [⟨some 4, none, .mov, [.c (.int .i64 (-1))]⟩])
  .ret))
theorem i50 : fnInfo Try.prog 50 = some (19, [.t 4], ac50) := by kernel_rfl
/-- "crossroads/crossroadsref07.Means": 32 temporaries, 2 parameters, results some [.t 4]. -/
def ac51 : AC :=
  .seq (.reg []
    [⟨some 2, none, .box, [.t 0]⟩,
     ⟨some 3, none, .box, [.t 1]⟩,
     ⟨some 4, none, .mov, [.c (.bool false)]⟩])
  (.seq (.reg []
    [⟨some 8, none, .load (some 6), [.t 2]⟩,
     ⟨some 9, none, .call 56, [.t 8]⟩,
     ⟨some 7, none, .mov, [.t 9]⟩,
     ⟨some 10, none, .ext 0, [.t 7]⟩,
     ⟨some 11, none, .ext 1, [.t 7]⟩,
     ⟨some 5, none, .mov, [.t 10]⟩,
     ⟨some 6, none, .mov, [.t 11]⟩])
  (.seq (.reg []
    [⟨some 12, none, .load (some 6), [.t 2]⟩,
     ⟨some 13, none, .call 46, [.t 12]⟩,
     ⟨some 14, none, .mov, [.t 13]⟩,
     ⟨some 15, some (14, true), .fldA 2, [.t 2]⟩,
     ⟨some 16, some (14, true), .load (some 2), [.t 15]⟩,
     ⟨some 17, some (14, true), .load (some 2), [.t 3]⟩,
     ⟨some 18, some (14, true), .call 57, [.t 16, .t 17]⟩,
     ⟨some 19, none, .pick, [.t 14, .t 18, .c (.bool false)]⟩,
     ⟨some 20, none, .mov, [.t 19]⟩,
     ⟨some 21, some (20, true), .fldA 1, [.t 3]⟩,
     ⟨some 22, some (20, true), .load none, [.t 21]⟩,
     ⟨some 23, some (20, true), .mov, [.t 5]⟩,
     ⟨some 24, some (20, true), .bin .geq .scal, [.t 22, .t 23]⟩,
     ⟨some 25, none, .pick, [.t 20, .t 24, .c (.bool false)]⟩,
     ⟨some 26, none, .mov, [.t 25]⟩,
     ⟨some 27, some (26, true), .fldA 1, [.t 3]⟩,
     ⟨some 28, some (26, true), .load none, [.t 27]⟩,
     ⟨some 29, some (26, true), .mov, [.t 6]⟩,
     ⟨some 30, some (26, true), .bin .leq .scal, [.t 28, .t 29]⟩,
     ⟨some 31, none, .pick, [.t 26, .t 30, .c (.bool false)]⟩,
     ⟨some 4, none, .mov, [.t 31]⟩])
  .ret))
theorem i51 : fnInfo Try.prog 51 = some (32, [.t 4], ac51) := by kernel_rfl
/-- "crossroads/addr.May": 15 temporaries, 1 parameters, results some [.t 2]. -/
def ac52 : AC :=
  .seq (.reg []
    [⟨some 1, none, .box, [.t 0]⟩,
     ⟨some 2, none, .mov, [.c (.bool false)]⟩])
  (.seq (.reg [[], [0], [1], [2, 2], [3], [4, 3], [3], [6, 3], [7, 3, 3], [5, 8, 3], [9, 3], [3, 10], [11, 8, 0, 1, 2, 3, 4, 5, 6, 7, 8, 9, 10, 11]]
    [⟨some 3, none, .fldA 1, [.t 1]⟩,
     ⟨some 4, none, .load none, [.t 3]⟩,
     ⟨some 5, none, .call 58, [.t 4]⟩,
     ⟨some 6, none, .mov, [.t 5]⟩,
     ⟨some 7, some (6, true), .fldA 0, [.t 1]⟩,
     ⟨some 8, some (6, true), .load none, [.t 7]⟩,
     ⟨some 9, some (6, true), .fldA 1, [.t 1]⟩,
     ⟨some 10, some (6, true), .load none, [.t 9]⟩,
     ⟨some 11, some (6, true), .call 59, [.t 10]⟩,
     ⟨some 12, some (6, true), .bin .andNot .scal, [.t 8, .t 11]⟩,
     ⟨some 13, some (6, true), .bin .eql .scal, [.t 12, .c (.int .u32 0)]⟩,
     ⟨some 14, none, .pick, [.t 6, .t 13, .c (.bool false)]⟩,
     ⟨some 2, none, .mov, [.t 14]⟩])
  .ret)
theorem i52 : fnInfo Try.prog 52 = some (15, [.t 2], ac52) := by kernel_rfl
def ac53_1 : AC :=
  .seq (.seq (.reg []
    [⟨some 14, none, .mov, [.t 3]⟩,
     ⟨some 15, none, .bin .lss .scal, [.t 14, .c (.int .i64 32)]⟩])
  (.cond (.t 15)
  .skip
  (.exit 0)))
  (.seq (.block 1 (.seq (.reg []
    [⟨some 18, none, .fldA 0, [.t 1]⟩,
     ⟨some 19, none, .load none, [.t 18]⟩,
     ⟨some 20, none, .mov, [.t 3]⟩,
     ⟨some 21, none, .call 60, [.t 19, .t 20]⟩,
     ⟨some 22, none, .bin .eql .scal, [.t 21, .c (.int .i64 1)]⟩])
  (.cond (.t 22)
  (.seq (.reg []
    [⟨some 2, none, .mov, [.c (.bool false)]⟩])
  .ret)
  .skip)))
  (.reg []
    [⟨some 16, none, .mov, [.t 3]⟩,
     ⟨some 17, none, .bin .add .scal, [.t 16, .c (.int .i64 1)]⟩,
     ⟨some 3, none, .mov, [.t 17]⟩]))
/-- "crossroads/crossroadsref03.May": 23 temporaries, 1 parameters, results some [.t 2]. -/
def ac53 : AC :=
  .seq (.reg []
    [⟨some 1, none, .box, [.t 0]⟩,
     ⟨some 2, none, .mov, [.c (.bool false)]⟩])
  (.seq (.seq (.reg []
    [⟨some 4, none, .fldA 1, [.t 1]⟩,
     ⟨some 5, none, .load none, [.t 4]⟩,
     ⟨some 6, none, .bin .lss .scal, [.t 5, .c (.int .i64 0)]⟩,
     ⟨some 7, none, .mov, [.t 6]⟩,
     ⟨some 8, some (7, false), .fldA 1, [.t 1]⟩,
     ⟨some 9, some (7, false), .load none, [.t 8]⟩,
     ⟨some 10, some (7, false), .bin .gtr .scal, [.t 9, .c (.int .i64 32)]⟩,
     ⟨some 11, none, .pick, [.t 7, .c (.bool true), .t 10]⟩])
  (.cond (.t 11)
  (.seq (.reg []
    [⟨some 2, none, .mov, [.c (.bool false)]⟩])
  .ret)
  .skip))
  (.seq (.seq (.reg []
    [⟨some 12, none, .fldA 1, [.t 1]⟩,
     ⟨some 13, none, .load none, [.t 12]⟩,
     ⟨some 3, none, .mov, [.t 13]⟩])
  (.block 0 (.loop ac53_1)))
  (.seq (.reg []
    [⟨some 2, none, .mov, [.c (.bool true)]⟩])
  .ret)))
theorem i53 : fnInfo Try.prog 53 = some (23, [.t 2], ac53) := by kernel_rfl
/-- "(crossroads/plist.Rule).bounds": 38 temporaries, 1 parameters, results some [.t 2, .t 3]. -/
def ac54 : AC :=
  .seq (.reg []
    [⟨some 1, none, .box, [.t 0]⟩,
     ⟨some 2, none, .mov, [.c (.int .i64 0)]⟩,
     ⟨some 3, none, .mov, [.c (.int .i64 0)]⟩])
  (.seq (.block 0 (.seq (.reg []
    [⟨some 5, none, .fldA 4, [.t 1]⟩,
     ⟨some 6, none, .load none, [.t 5]⟩,
     ⟨some 7, none, .bin .eql .scal, [.t 6, .c (.int .i64 0)]⟩,
     ⟨some 8, none, .mov, [.t 7]⟩,
     ⟨some 9, some (8, true), .fldA 5, [.t 1]⟩,
     ⟨some 10, some (8, true), .load none, [.t 9]⟩,
     ⟨some 11, some (8, true), .bin .eql .scal, [.t 10, .c (.int .i64 0)]⟩,
     ⟨some 12, none, .pick, [.t 8, .t 11, .c (.bool false)]⟩,
     ⟨some 4, none, .mov, [.t 12]⟩])
  (.cond (.t 4)
  (.seq (.reg [[], [0], [1], [], [3], [4], [2, 0, 1, 2], [5, 6, 0, 1, 2, 3, 4, 5, 6]]
    [⟨some 13, none, .fldA 2, [.t 1]⟩,
     ⟨some 14, none, .fldA 1, [.t 13]⟩,
     ⟨some 15, none, .load none, [.t 14]⟩,
     ⟨some 16, none, .fldA 2, [.t 1]⟩,
     ⟨some 17, none, .fldA 1, [.t 16]⟩,
     ⟨some 18, none, .load none, [.t 17]⟩,
     ⟨some 2, none, .mov, [.t 15]⟩,
     ⟨some 3, none, .mov, [.t 18]⟩])
  .ret)
  (.seq (.reg []
    [⟨some 20, none, .fldA 4, [.t 1]⟩,
     ⟨some 21, none, .load none, [.t 20]⟩,
     ⟨some 22, none, .bin .eql .scal, [.t 21, .c (.int .i64 0)]⟩,
     ⟨some 19, none, .mov, [.t 22]⟩])
  (.cond (.t 19)
  (.seq (.reg [[], [0], [1], [], [3], [2, 0, 1, 2], [4, 5, 0, 1, 2, 3, 4, 5]]
    [⟨some 23, none, .fldA 2, [.t 1]⟩,
     ⟨some 24, none, .fldA 1, [.t 23]⟩,
     ⟨some 25, none, .load none, [.t 24]⟩,
     ⟨some 26, none, .fldA 5, [.t 1]⟩,
     ⟨some 27, none, .load none, [.t 26]⟩,
     ⟨some 2, none, .mov, [.t 25]⟩,
     ⟨some 3, none, .mov, [.t 27]⟩])
  .ret)
  (.seq (.reg []
    [⟨some 29, none, .fldA 5, [.t 1]⟩,
     ⟨some 30, none, .load none, [.t 29]⟩,
     ⟨some 31, none, .bin .eql .scal, [.t 30, .c (.int .i64 0)]⟩,
     ⟨some 28, none, .mov, [.t 31]⟩])
  (.cond (.t 28)
  (.seq (.reg []
    [⟨some 32, none, .fldA 4, [.t 1]⟩,
     ⟨some 33, none, .load none, [.t 32]⟩,
     ⟨some 2, none, .mov, [.t 33]⟩,
     ⟨some 3, none, .mov, [.c (.int .i64 32)]⟩])
  .ret)
  .skip)))))))
  (.seq (.reg [[], [0], [], [2], [1, 0, 1], [3, 4, 0, 1, 2, 3, 4]]
    [⟨some 34, none, .fldA 4, [.t 1]⟩,
     ⟨some 35, none, .load none, [.t 34]⟩,
     ⟨some 36, none, .fldA 5, [.t 1]⟩,
     ⟨some 37, none, .load none, [.t 36]⟩,
     ⟨some 2, none, .mov, [.t 35]⟩,
     ⟨some 3, none, .mov, [.t 37]⟩])
  .ret))
theorem i54 : fnInfo Try.prog 54 = some (38, [.t 2, .t 3], ac54) := by kernel_rfl
/-- "crossroads/addr.Covers": 20 temporaries, 2 parameters, results some [.t 4]. -/
def ac55 : AC :=
  .seq (.reg []
    [⟨some 2, none, .box, [.t 0]⟩,
     ⟨some 3, none, .box, [.t 1]⟩,
     ⟨some 4, none, .mov, [.c (.bool false)]⟩])
  (.seq (.reg []
    [⟨some 5, none, .load (some 2), [.t 3]⟩,
     ⟨some 6, none, .call 52, [.t 5]⟩,
     ⟨some 7, none, .mov, [.t 6]⟩,
     ⟨some 8, some (7, true), .fldA 1, [.t 2]⟩,
     ⟨some 9, some (7, true), .load none, [.t 8]⟩,
     ⟨some 10, some (7, true), .fldA 1, [.t 3]⟩,
     ⟨some 11, some (7, true), .load none, [.t 10]⟩,
     ⟨some 12, some (7, true), .bin .leq .scal, [.t 9, .t 11]⟩,
     ⟨some 13, none, .pick, [.t 7, .t 12, .c (.bool false)]⟩,
     ⟨some 14, none, .mov, [.t 13]⟩,
     ⟨some 15, some (14, true), .load (some 2), [.t 2]⟩,
     ⟨some 16, some (14, true), .fldA 0, [.t 3]⟩,
     ⟨some 17, some (14, true), .load none, [.t 16]⟩,
     ⟨some 18, some (14, true), .call 61, [.t 15, .t 17]⟩,
     ⟨some 19, none, .pick, [.t 14, .t 18, .c (.bool false)]⟩,
     ⟨some 4, none, .mov, [.t 19]⟩])
  .ret)
theorem i55 : fnInfo Try.prog 55 = some (20, [.t 4], ac55) := by kernel_rfl
/-- "crossroads/crossroadsref07.Bounds": 33 temporaries, 1 parameters, results some [.t 2, .t 3]. -/
def ac56 : AC :=
  .seq (.reg []
    [⟨some 1, none, .box, [.t 0]⟩,
     ⟨some 2, none, .mov, [.c (.int .i64 0)]⟩,
     ⟨some 3, none, .mov, [.c (.int .i64 0)]⟩])
  (.seq (.seq (.reg []
    [⟨some 6, none, .fldA 4, [.t 1]⟩,
     ⟨some 7, none, .load none, [.t 6]⟩,
     ⟨some 8, none, .bin .eql .scal, [.t 7, .c (.int .i64 0)]⟩,
     ⟨some 9, none, .mov, [.t 8]⟩,
     ⟨some 10, some (9, true), .fldA 5, [.t 1]⟩,
     ⟨some 11, some (9, true), .load none, [.t 10]⟩,
     ⟨some 12, some (9, true), .bin .eql .scal, [.t 11, .c (.int .i64 0)]⟩,
     ⟨some 13, none, .pick, [.t 9, .t 12, .c (.bool false)]⟩])
  (.cond (.t 13)
  (.seq (.reg [[], [0], [1], [], [3], [4], [2, 0, 1, 2], [5, 6, 0, 1, 2, 3, 4, 5, 6]]
    [⟨some 14, none, .fldA 2, [.t 1]⟩,
     ⟨some 15, none, .fldA 1, [.t 14]⟩,
     ⟨some 16, none, .load none, [.t 15]⟩,
     ⟨some 17, none, .fldA 2, [.t 1]⟩,
     ⟨some 18, none, .fldA 1, [.t 17]⟩,
     ⟨some 19, none, .load none, [.t 18]⟩,
     ⟨some 2, none, .mov, [.t 16]⟩,
     ⟨some 3, none, .mov, [.t 19]⟩])
  .ret)
  .skip))
  (.seq (.reg [[], [0], [], [2], [1, 0, 1], [3, 4, 0, 1, 2, 3, 4]]
    [⟨some 20, none, .fldA 4, [.t 1]⟩,
     ⟨some 21, none, .load none, [.t 20]⟩,
     ⟨some 22, none, .fldA 5, [.t 1]⟩,
     ⟨some 23, none, .load none, [.t 22]⟩,
     ⟨some 4, none, .mov, [.t 21]⟩,
     ⟨some 5, none, .mov, [.t 23]⟩])
  (.seq (.seq (.reg []
    [⟨some 24, none, .mov, [.t 4]⟩,
     ⟨some 25, none, .bin .eql .scal, [.t 24, .c (.int .i64 0)]⟩])
  (.cond (.t 25)
  (.reg []
    [⟨some 26, none, .fldA 2, [.t 1]⟩,
     ⟨some 27, none, .fldA 1, [.t 26]⟩,
     ⟨some 28, none, .load none, [.t 27]⟩,
     ⟨some 4, none, .mov, [.t 28]⟩])
  .skip))
  (.seq (.seq (.reg []
    [⟨some 29, none, .mov, [.t 5]⟩,
     ⟨some 30, none, .bin .eql .scal, [.t 29, .c (.int .i64 0)]⟩])
  (.cond (.t 30)
  (.reg []
    [⟨some 5, none, .mov, [.c (.int .i64 32)]⟩])
  .skip))
  (.seq (.reg []
    [⟨some 31, none, .mov, [.t 4]⟩,
     ⟨some 32, none, .mov, [.t 5]⟩,
     ⟨some 2, none, .mov, [.t 31]⟩,
     ⟨some 3, none, .mov, [.t 32]⟩])
  .ret)))))
theorem i56 : fnInfo Try.prog 56 = some (33, [.t 2, .t 3], ac56) := by kernel_rfl
/-- "crossroads/crossroadsref03.Covers": 24 temporaries, 2 parameters, results some [.t 4]. -/
def ac57 : AC :=
  .seq (.reg []
    [⟨some 2, none, .box, [.t 0]⟩,
     ⟨some 3, none, .box, [.t 1]⟩,
     ⟨some 4, none, .mov, [.c (.bool false)]⟩])
  (.seq (.reg []
    [⟨some 5, none, .load (some 2), [.t 2]⟩,
     ⟨some 6, none, .call 53, [.t 5]⟩,
     ⟨some 7, none, .mov, [.t 6]⟩,
     ⟨some 8, some (7, true), .load (some 2), [.t 3]⟩,
     ⟨some 9, some (7, true), .call 53, [.t 8]⟩,
     ⟨some 10, none, .pick, [.t 7, .t 9, .c (.bool false)]⟩,
     ⟨some 11, none, .mov, [.t 10]⟩,
     ⟨some 12, some (11, true), .fldA 1, [.t 3]⟩,
     ⟨some 13, some (11, true), .load none, [.t 12]⟩,
     ⟨some 14, some (11, true), .fldA 1, [.t 2]⟩,
     ⟨some 15, some (11, true), .load none, [.t 14]⟩,
     ⟨some 16, some (11, true), .bin .geq .scal, [.t 13, .t 15]⟩,
     ⟨some 17, none, .pick, [.t 11, .t 16, .c (.bool false)]⟩,
     ⟨some 18, none, .mov, [.t 17]⟩,
     ⟨some 19, some (18, true), .load (some 2), [.t 2]⟩,
     ⟨some 20, some (18, true), .fldA 0, [.t 3]⟩,
     ⟨some 21, some (18, true), .load none, [.t 20]⟩,
     ⟨some 22, some (18, true), .call 62, [.t 19, .t 21]⟩,
     ⟨some 23, none, .pick, [.t 18, .t 22, .c (.bool false)]⟩,
     ⟨some 4, none, .mov, [.t 23]⟩])
  .ret)
theorem i57 : fnInfo Try.prog 57 = some (24, [.t 4], ac57) := by kernel_rfl
/-- "crossroads/addr.isLong": 9 temporaries, 1 parameters, results some [.t 2]. -/
def ac58 : AC :=
  .seq (.reg []
    [⟨some 2, none, .mov, [.c (.bool false)]⟩])
  (.seq (.reg []
    [⟨some 3, none, .mov, [.t 0]⟩,
     ⟨some 4, none, .bin .geq .scal, [.t 3, .c (.int .i64 0)]⟩,
     ⟨some 5, none, .mov, [.t 4]⟩,
     ⟨some 6, some (5, true), .mov, [.t 0]⟩,
     ⟨some 7, some (5, true), .bin .leq .scal, [.t 6, .c (.int .i64 32)]⟩,
     ⟨some 8, none, .pick, [.t 5, .t 7, .c (.bool false)]⟩,
     ⟨some 2, none, .mov, [.t 8]⟩])
  .ret)
theorem i58 : fnInfo Try.prog 58 = some (9, [.t 2], ac58) := by kernel_rfl
/-- "crossroads/addr.Mask": 10 temporaries, 1 parameters, results some [.t 2]. -/
def ac59 : AC :=
  .seq (.reg []
    [⟨some 2, none, .mov, [.c (.int .u32 0)]⟩])
  (.seq (.reg []
    [⟨some 3, none, .mov, [.t 0]⟩,
     ⟨some 4, none, .minmax true, [.t 3, .c (.int .i64 0)]⟩,
     ⟨some 5, none, .minmax false, [.t 4, .c (.int .i64 32)]⟩,
     ⟨some 0, none, .mov, [.t 5]⟩])
  (.seq (.reg []
    [⟨some 6, none, .mov, [.t 0]⟩,
     ⟨some 7, none, .bin .sub .scal, [.c (.int .i64 32), .t 6]⟩,
     ⟨some 8, none, .bin .shl .scal, [.c (.int .u64 4294967295), .t 7]⟩,
     ⟨some 9, none, .conv .u32, [.t 8]⟩,
     ⟨some 2, none, .mov, [.t 9]⟩])
  .ret))
theorem i59 : fnInfo Try.prog 59 = some (10, [.t 2], ac59) := by kernel_rfl
/-- "crossroads/crossroadsref03.Bit": 18 temporaries, 2 parameters, results some [.t 4]. -/
def ac60 : AC :=
  .seq (.reg []
    [⟨some 4, none, .mov, [.c (.int .i64 0)]⟩])
  (.seq (.seq (.reg []
    [⟨some 5, none, .mov, [.t 1]⟩,
     ⟨some 6, none, .bin .lss .scal, [.t 5, .c (.int .i64 0)]⟩,
     ⟨some 7, none, .mov, [.t 6]⟩,
     ⟨some 8, some (7, false), .mov, [.t 1]⟩,
     ⟨some 9, some (7, false), .bin .gtr .scal, [.t 8, .c (.int .i64 31)]⟩,
     ⟨some 10, none, .pick, [.t 7, .c (.bool true), .t 9]⟩])
  (.cond (.t 10)
  (.seq (.reg []
    [⟨some 4, none, .mov, [.c (.int .i64 0)]⟩])
  .ret)
  .skip))
  (.seq (.reg []
    [⟨some 11, none, .mov, [.t 0]⟩,
     ⟨some 12, none, .mov, [.t 1]⟩,
     ⟨some 13, none, .bin .sub .scal, [.c (.int .i64 31), .t 12]⟩,
     ⟨some 14, none, .conv .u64, [.t 13]⟩,
     ⟨some 15, none, .bin .shr .scal, [.t 11, .t 14]⟩,
     ⟨some 16, none, .bin .and .scal, [.t 15, .c (.int .u32 1)]⟩,
     ⟨some 17, none, .conv .i64, [.t 16]⟩,
     ⟨some 4, none, .mov, [.t 17]⟩])
  .ret))
theorem i60 : fnInfo Try.prog 60 = some (18, [.t 4], ac60) := by kernel_rfl
/-- "crossroads/addr.Has": 17 temporaries, 2 parameters, results some [.t 4]. -/
def ac61 : AC :=
  .seq (.reg []
    [⟨some 2, none, .box, [.t 0]⟩,
     ⟨some 4, none, .mov, [.c (.bool false)]⟩])
  (.seq (.reg [[], [0], [1, 1], [2], [2], [4, 2], [5, 2, 2], [3, 6, 2], [2], [8, 2], [7, 9, 2], [2, 10], [11, 6, 0, 1, 2, 3, 4, 5, 6, 7, 8, 9, 10, 11]]
    [⟨some 5, none, .load (some 2), [.t 2]⟩,
     ⟨some 6, none, .call 52, [.t 5]⟩,
     ⟨some 7, none, .mov, [.t 6]⟩,
     ⟨some 8, some (7, true), .mov, [.t 1]⟩,
     ⟨some 9, some (7, true), .fldA 1, [.t 2]⟩,
     ⟨some 10, some (7, true), .load none, [.t 9]⟩,
     ⟨some 11, some (7, true), .call 59, [.t 10]⟩,
     ⟨some 12, some (7, true), .bin .and .scal, [.t 8, .t 11]⟩,
     ⟨some 13, some (7, true), .fldA 0, [.t 2]⟩,
     ⟨some 14, some (7, true), .load none, [.t 13]⟩,
     ⟨some 15, some (7, true), .bin .eql .scal, [.t 12, .t 14]⟩,
     ⟨some 16, none, .pick, [.t 7, .t 15, .c (.bool false)]⟩,
     ⟨some 4, none, .mov, [.t 16]⟩])
  .ret)
theorem i61 : fnInfo Try.prog 61 = some (17, [.t 4], ac61) := by kernel_rfl
def ac62_1 : AC :=
  .seq (.seq (.reg []
    [⟨some 9, none, .mov, [.t 5]⟩,
     ⟨some 10, none, .fldA 1, [.t 2]⟩,
     ⟨some 11, none, .load none, [.t 10]⟩,
     ⟨some 12, none, .bin .lss .scal, [.t 9, .t 11]⟩])
  (.cond (.t 12)
  .skip
  (.exit 0)))
  (.seq (.block 1 (.seq (.reg []
    [⟨some 15, none, .fldA 0, [.t 2]⟩,
     ⟨some 16, none, .load none, [.t 15]⟩,
     ⟨some 17, none, .mov, [.t 5]⟩,
     ⟨some 18, none, .call 60, [.t 16, .t 17]⟩,
     ⟨some 19, none, .mov, [.t 1]⟩,
     ⟨some 20, none, .mov, [.t 5]⟩,
     ⟨some 21, none, .call 60, [.t 19, .t 20]⟩,
     ⟨some 22, none, .bin .neq .scal, [.t 18, .t 21]⟩])
  (.cond (.t 22)
  (.seq (.reg []
    [⟨some 4, none, .mov, [.c (.bool false)]⟩])
  .ret)
  .skip)))
  (.reg []
    [⟨some 13, none, .mov, [.t 5]⟩,
     ⟨some 14, none, .bin .add .scal, [.t 13, .c (.int .i64 1)]⟩,
     ⟨some 5, none, .mov, [.t 14]⟩]))
/-- "crossroads/crossroadsref03.Has": 23 temporaries, 2 parameters, results some [.t 4]. -/
def ac62 : AC :=
  .seq (.reg []
    [⟨some 2, none, .box, [.t 0]⟩,
     ⟨some 4, none, .mov, [.c (.bool false)]⟩])
  (.seq (.seq (.reg []
    [⟨some 6, none, .load (some 2), [.t 2]⟩,
     ⟨some 7, none, .call 53, [.t 6]⟩,
     ⟨some 8, none, .unNot, [.t 7]⟩])
  (.cond (.t 8)
  (.seq (.reg []
    [⟨some 4, none, .mov, [.c (.bool false)]⟩])
  .ret)
  .skip))
  (.seq (.seq (.reg []
    [⟨some 5, none, .mov, [.c (.int .i64 0)]⟩])
  (.block 0 (.loop ac62_1)))
  (.seq (.reg []
    [⟨some 4, none, .mov, [.c (.bool true)]⟩])
  .ret)))
theorem i62 : fnInfo Try.prog 62 = some (23, [.t 4], ac62) := by kernel_rfl
end Go.Proofs.Ytagiapphmkdnmaa.Abs

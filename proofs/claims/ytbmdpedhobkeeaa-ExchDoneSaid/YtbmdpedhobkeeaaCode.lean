/- The functions of the program as the abstract machine's code: each is what the model's code is turned into. -/
import Derived.Test.YtbmdpedhobkeeaaA20
import Derived.Test.YtbmdpedhobkeeaaP0
import Derived.Test.YtbmdpedhobkeeaaProg
import Derived.KernelRfl
namespace Go.Proofs.Ytbmdpedhobkeeaa.Abs
open Go

theorem mixed : Try.prog.follows .mixedOrders = true := by kernel_rfl

def ac6_1 : AC :=
 .seq (.seq (.reg []
 [⟨some 56, none, .mov, [.t 10]⟩,
 ⟨some 57, none, .fldA 3, [.t 2]⟩,
 ⟨some 58, none, .load none, [.t 57]⟩,
 ⟨some 59, none, .lenL, [.t 58]⟩,
 ⟨some 60, none, .fldA 3, [.t 3]⟩,
 ⟨some 61, none, .load none, [.t 60]⟩,
 ⟨some 62, none, .lenL, [.t 61]⟩,
 ⟨some 63, none, .minmax true, [.t 59, .t 62]⟩,
 ⟨some 64, none, .bin .quo .scal, [.t 63, .c (.int .i64 10)]⟩,
 ⟨some 65, none, .bin .add .scal, [.t 64, .c (.int .i64 5)]⟩,
 ⟨some 66, none, .bin .lss .scal, [.t 56, .t 65]⟩])
 (.cond (.t 66)
 .skip
 (.exit 0)))
 (.seq (.block 1 (.reg []
 [⟨some 69, none, .mov, [.t 9]⟩,
 ⟨some 70, none, .bslice 1 3, [.c (.int .i64 0), .c (.int .i64 1), .c (.int .i64 0), .c (.int .i64 1)]⟩,
 ⟨some 71, none, .append 1 3 8, [.t 69, .t 70]⟩,
 ⟨some 9, none, .mov, [.t 71]⟩]))
 (.reg []
 [⟨some 67, none, .mov, [.t 10]⟩,
 ⟨some 68, none, .bin .add .scal, [.t 67, .c (.int .i64 1)]⟩,
 ⟨some 10, none, .mov, [.t 68]⟩]))
/-- "crossroads/crossroadslaw17.ExchDone": 90 temporaries, 2 parameters, results some [.t 4]. -/
def ac6 : AC :=
 .seq (.reg []
 [⟨some 2, none, .box, [.t 0]⟩,
 ⟨some 3, none, .box, [.t 1]⟩,
 ⟨some 4, none, .mov, [.c (.bool false)]⟩])
 (.seq (.seq (.reg []
 [⟨some 13, none, .fldA 3, [.t 2]⟩,
 ⟨some 14, none, .load none, [.t 13]⟩,
 ⟨some 15, none, .lenL, [.t 14]⟩,
 ⟨some 16, none, .bin .gtr .scal, [.t 15, .c (.int .i64 120)]⟩,
 ⟨some 17, none, .mov, [.t 16]⟩,
 ⟨some 18, some (17, false), .fldA 3, [.t 3]⟩,
 ⟨some 19, some (17, false), .load none, [.t 18]⟩,
 ⟨some 20, some (17, false), .lenL, [.t 19]⟩,
 ⟨some 21, some (17, false), .bin .gtr .scal, [.t 20, .c (.int .i64 120)]⟩,
 ⟨some 22, none, .pick, [.t 17, .c (.bool true), .t 21]⟩,
 ⟨some 23, none, .mov, [.t 22]⟩,
 ⟨some 24, some (23, false), .fldA 0, [.t 2]⟩,
 ⟨some 25, some (23, false), .load none, [.t 24]⟩,
 ⟨some 26, some (23, false), .fldA 0, [.t 3]⟩,
 ⟨some 27, some (23, false), .load none, [.t 26]⟩,
 ⟨some 28, some (23, false), .bin .eql .scal, [.t 25, .t 27]⟩,
 ⟨some 29, none, .pick, [.t 23, .c (.bool true), .t 28]⟩])
 (.cond (.t 29)
 (.seq (.reg []
 [⟨some 30, none, .call 8, []⟩,
 ⟨some 4, none, .mov, [.t 30]⟩])
 .ret)
 .skip))
 (.seq (.reg []
 [⟨some 32, none, .fldA 0, [.t 2]⟩,
 ⟨some 33, none, .load none, [.t 32]⟩,
 ⟨some 34, none, .fldA 0, [.t 3]⟩,
 ⟨some 35, none, .load none, [.t 34]⟩,
 ⟨some 36, none, .fldA 2, [.t 2]⟩,
 ⟨some 37, none, .load none, [.t 36]⟩,
 ⟨some 38, none, .fldA 3, [.t 2]⟩,
 ⟨some 39, none, .load none, [.t 38]⟩,
 ⟨some 40, none, .call 9, [.t 33, .t 35, .t 37, .t 39]⟩,
 ⟨some 31, none, .mov, [.t 40]⟩,
 ⟨some 41, none, .ext 0, [.t 31]⟩,
 ⟨some 42, none, .ext 1, [.t 31]⟩,
 ⟨some 5, none, .alloc [.int .u32 0, .int .u32 0, .int .i64 0, .bool false, .int .u32 0, .nils, .nils, .int .i64 0, .int .i64 0, .bool false, .bool false, .bool false, .int .u32 0, .nils], []⟩,
 ⟨some 6, none, .alloc [.int .i64 0, .int .i64 0, .bool false, .bool false, .bool false, .int .u32 0, .nils], []⟩,
 ⟨none, none, .store 14, [.t 5, .t 41]⟩,
 ⟨none, none, .store 7, [.t 6, .t 42]⟩])
 (.seq (.reg []
 [⟨some 44, none, .fldA 0, [.t 3]⟩,
 ⟨some 45, none, .load none, [.t 44]⟩,
 ⟨some 46, none, .fldA 0, [.t 2]⟩,
 ⟨some 47, none, .load none, [.t 46]⟩,
 ⟨some 48, none, .fldA 2, [.t 3]⟩,
 ⟨some 49, none, .load none, [.t 48]⟩,
 ⟨some 50, none, .fldA 3, [.t 3]⟩,
 ⟨some 51, none, .load none, [.t 50]⟩,
 ⟨some 52, none, .call 9, [.t 45, .t 47, .t 49, .t 51]⟩,
 ⟨some 43, none, .mov, [.t 52]⟩,
 ⟨some 53, none, .ext 0, [.t 43]⟩,
 ⟨some 54, none, .ext 1, [.t 43]⟩,
 ⟨some 7, none, .alloc [.int .u32 0, .int .u32 0, .int .i64 0, .bool false, .int .u32 0, .nils, .nils, .int .i64 0, .int .i64 0, .bool false, .bool false, .bool false, .int .u32 0, .nils], []⟩,
 ⟨some 8, none, .alloc [.int .i64 0, .int .i64 0, .bool false, .bool false, .bool false, .int .u32 0, .nils], []⟩,
 ⟨none, none, .store 14, [.t 7, .t 53]⟩,
 ⟨none, none, .store 7, [.t 8, .t 54]⟩])
 (.seq (.reg []
 [⟨some 55, none, .bslice 1 3, []⟩,
 ⟨some 9, none, .mov, [.t 55]⟩])
 (.seq (.seq (.reg []
 [⟨some 10, none, .mov, [.c (.int .i64 0)]⟩])
 (.block 0 (.loop ac6_1)))
 (.seq (.reg []
 [⟨some 73, none, .load (some 14), [.t 5]⟩,
 ⟨some 74, none, .load (some 14), [.t 7]⟩,
 ⟨some 75, none, .mov, [.t 9]⟩,
 ⟨some 76, none, .call 19, [.t 73, .t 74, .t 75]⟩,
 ⟨some 72, none, .mov, [.t 76]⟩,
 ⟨some 77, none, .ext 0, [.t 72]⟩,
 ⟨some 78, none, .ext 1, [.t 72]⟩,
 ⟨some 11, none, .alloc [.int .u32 0, .int .u32 0, .int .i64 0, .bool false, .int .u32 0, .nils, .nils, .int .i64 0, .int .i64 0, .bool false, .bool false, .bool false, .int .u32 0, .nils], []⟩,
 ⟨some 12, none, .alloc [.int .u32 0, .int .u32 0, .int .i64 0, .bool false, .int .u32 0, .nils, .nils, .int .i64 0, .int .i64 0, .bool false, .bool false, .bool false, .int .u32 0, .nils], []⟩,
 ⟨none, none, .store 14, [.t 11, .t 77]⟩,
 ⟨none, none, .store 14, [.t 12, .t 78]⟩])
 (.seq (.reg []
 [⟨some 79, none, .call 8, []⟩,
 ⟨some 80, none, .mov, [.t 79]⟩,
 ⟨some 81, some (80, true), .fldA 2, [.t 11]⟩,
 ⟨some 82, some (80, true), .load none, [.t 81]⟩,
 ⟨some 83, some (80, true), .bin .eql .scal, [.t 82, .c (.int .i64 2)]⟩,
 ⟨some 84, none, .pick, [.t 80, .t 83, .c (.bool false)]⟩,
 ⟨some 85, none, .mov, [.t 84]⟩,
 ⟨some 86, some (85, true), .fldA 2, [.t 12]⟩,
 ⟨some 87, some (85, true), .load none, [.t 86]⟩,
 ⟨some 88, some (85, true), .bin .eql .scal, [.t 87, .c (.int .i64 2)]⟩,
 ⟨some 89, none, .pick, [.t 85, .t 88, .c (.bool false)]⟩,
 ⟨some 4, none, .mov, [.t 89]⟩])
 .ret)))))))
theorem i6 : fnInfo Try.prog 6 = some (90, [.t 4], ac6) := by kernel_rfl
/-- "crossroads/crossroadslaw17.alive": 75 temporaries, 0 parameters, results some [.t 0]. -/
def ac8 : AC :=
 .seq (.reg []
 [⟨some 0, none, .mov, [.c (.bool false)]⟩])
 (.seq (.reg []
 [⟨some 16, none, .call 9, [.c (.int .u32 1), .c (.int .u32 2), .c (.int .u32 5), .c .nils]⟩,
 ⟨some 15, none, .mov, [.t 16]⟩,
 ⟨some 17, none, .ext 0, [.t 15]⟩,
 ⟨some 18, none, .ext 1, [.t 15]⟩,
 ⟨some 1, none, .alloc [.int .u32 0, .int .u32 0, .int .i64 0, .bool false, .int .u32 0, .nils, .nils, .int .i64 0, .int .i64 0, .bool false, .bool false, .bool false, .int .u32 0, .nils], []⟩,
 ⟨some 2, none, .alloc [.int .i64 0, .int .i64 0, .bool false, .bool false, .bool false, .int .u32 0, .nils], []⟩,
 ⟨none, none, .store 14, [.t 1, .t 17]⟩,
 ⟨none, none, .store 7, [.t 2, .t 18]⟩])
 (.seq (.reg []
 [⟨some 20, none, .call 9, [.c (.int .u32 2), .c (.int .u32 1), .c (.int .u32 7), .c .nils]⟩,
 ⟨some 19, none, .mov, [.t 20]⟩,
 ⟨some 21, none, .ext 0, [.t 19]⟩,
 ⟨some 22, none, .ext 1, [.t 19]⟩,
 ⟨some 3, none, .alloc [.int .u32 0, .int .u32 0, .int .i64 0, .bool false, .int .u32 0, .nils, .nils, .int .i64 0, .int .i64 0, .bool false, .bool false, .bool false, .int .u32 0, .nils], []⟩,
 ⟨some 4, none, .alloc [.int .i64 0, .int .i64 0, .bool false, .bool false, .bool false, .int .u32 0, .nils], []⟩,
 ⟨none, none, .store 14, [.t 3, .t 21]⟩,
 ⟨none, none, .store 7, [.t 4, .t 22]⟩])
 (.seq (.reg []
 [⟨some 24, none, .load (some 14), [.t 1]⟩,
 ⟨some 25, none, .load (some 7), [.t 4]⟩,
 ⟨some 26, none, .call 15, [.t 24, .t 25]⟩,
 ⟨some 23, none, .mov, [.t 26]⟩,
 ⟨some 27, none, .ext 0, [.t 23]⟩,
 ⟨some 28, none, .ext 1, [.t 23]⟩,
 ⟨some 29, none, .ext 2, [.t 23]⟩,
 ⟨some 30, none, .ext 3, [.t 23]⟩,
 ⟨some 5, none, .alloc [.int .i64 0, .int .i64 0, .bool false, .bool false, .bool false, .int .u32 0, .nils], []⟩,
 ⟨none, none, .store 14, [.t 1, .t 27]⟩,
 ⟨none, none, .store 7, [.t 5, .t 28]⟩,
 ⟨some 6, none, .mov, [.t 29]⟩,
 ⟨some 7, none, .mov, [.t 30]⟩])
 (.seq (.reg []
 [⟨some 32, none, .load (some 14), [.t 3]⟩,
 ⟨some 33, none, .load (some 7), [.t 2]⟩,
 ⟨some 34, none, .call 15, [.t 32, .t 33]⟩,
 ⟨some 31, none, .mov, [.t 34]⟩,
 ⟨some 35, none, .ext 0, [.t 31]⟩,
 ⟨some 36, none, .ext 1, [.t 31]⟩,
 ⟨some 37, none, .ext 2, [.t 31]⟩,
 ⟨some 38, none, .ext 3, [.t 31]⟩,
 ⟨some 8, none, .alloc [.int .u32 0, .int .u32 0, .int .i64 0, .bool false, .int .u32 0, .nils, .nils, .int .i64 0, .int .i64 0, .bool false, .bool false, .bool false, .int .u32 0, .nils], []⟩,
 ⟨some 9, none, .alloc [.int .i64 0, .int .i64 0, .bool false, .bool false, .bool false, .int .u32 0, .nils], []⟩,
 ⟨none, none, .store 14, [.t 8, .t 35]⟩,
 ⟨none, none, .store 7, [.t 9, .t 36]⟩,
 ⟨some 10, none, .mov, [.t 37]⟩,
 ⟨some 11, none, .mov, [.t 38]⟩])
 (.seq (.reg []
 [⟨some 40, none, .load (some 14), [.t 3]⟩,
 ⟨some 41, none, .load (some 7), [.t 5]⟩,
 ⟨some 42, none, .call 15, [.t 40, .t 41]⟩,
 ⟨some 39, none, .mov, [.t 42]⟩,
 ⟨some 43, none, .ext 0, [.t 39]⟩,
 ⟨some 44, none, .ext 1, [.t 39]⟩,
 ⟨some 45, none, .ext 2, [.t 39]⟩,
 ⟨some 46, none, .ext 3, [.t 39]⟩,
 ⟨some 12, none, .alloc [.int .i64 0, .int .i64 0, .bool false, .bool false, .bool false, .int .u32 0, .nils], []⟩,
 ⟨none, none, .store 14, [.t 3, .t 43]⟩,
 ⟨none, none, .store 7, [.t 12, .t 44]⟩,
 ⟨some 13, none, .mov, [.t 45]⟩,
 ⟨some 14, none, .mov, [.t 46]⟩])
 (.seq (.reg []
 [⟨some 47, none, .mov, [.t 6]⟩,
 ⟨some 48, none, .mov, [.t 47]⟩,
 ⟨some 49, some (48, true), .mov, [.t 10]⟩,
 ⟨some 50, some (48, true), .unNot, [.t 49]⟩,
 ⟨some 51, none, .pick, [.t 48, .t 50, .c (.bool false)]⟩,
 ⟨some 52, none, .mov, [.t 51]⟩,
 ⟨some 53, some (52, true), .mov, [.t 14]⟩,
 ⟨some 54, some (52, true), .bin .eql .scal, [.t 53, .c (.int .i64 0)]⟩,
 ⟨some 55, none, .pick, [.t 52, .t 54, .c (.bool false)]⟩,
 ⟨some 56, none, .mov, [.t 55]⟩,
 ⟨some 57, some (56, true), .fldA 2, [.t 1]⟩,
 ⟨some 58, some (56, true), .load none, [.t 57]⟩,
 ⟨some 59, some (56, true), .bin .eql .scal, [.t 58, .c (.int .i64 1)]⟩,
 ⟨some 60, none, .pick, [.t 56, .t 59, .c (.bool false)]⟩,
 ⟨some 61, none, .mov, [.t 60]⟩,
 ⟨some 62, some (61, true), .fldA 2, [.t 3]⟩,
 ⟨some 63, some (61, true), .load none, [.t 62]⟩,
 ⟨some 64, some (61, true), .bin .eql .scal, [.t 63, .c (.int .i64 1)]⟩,
 ⟨some 65, none, .pick, [.t 61, .t 64, .c (.bool false)]⟩,
 ⟨some 66, none, .mov, [.t 65]⟩,
 ⟨some 67, some (66, true), .fldA 3, [.t 3]⟩,
 ⟨some 68, some (66, true), .load none, [.t 67]⟩,
 ⟨some 69, none, .pick, [.t 66, .t 68, .c (.bool false)]⟩,
 ⟨some 70, none, .mov, [.t 69]⟩,
 ⟨some 71, some (70, true), .fldA 5, [.t 5]⟩,
 ⟨some 72, some (70, true), .load none, [.t 71]⟩,
 ⟨some 73, some (70, true), .bin .eql .scal, [.t 72, .c (.int .u32 7)]⟩,
 ⟨some 74, none, .pick, [.t 70, .t 73, .c (.bool false)]⟩,
 ⟨some 0, none, .mov, [.t 74]⟩])
 .ret))))))
theorem i8 : fnInfo Try.prog 8 = some (75, [.t 0], ac8) := by kernel_rfl
/-- "crossroads/exch.Open": 21 temporaries, 4 parameters, results some [.c 8 (some 14), .c 9 (some 7)]. -/
def ac9 : AC :=
 .seq (.reg []
 [⟨some 8, none, .alloc [.int .u32 0, .int .u32 0, .int .i64 0, .bool false, .int .u32 0, .nils, .nils, .int .i64 0, .int .i64 0, .bool false, .bool false, .bool false, .int .u32 0, .nils], []⟩,
 ⟨some 9, none, .alloc [.int .i64 0, .int .i64 0, .bool false, .bool false, .bool false, .int .u32 0, .nils], []⟩])
 (.seq (.reg []
 [⟨some 11, none, .mov, [.t 2]⟩,
 ⟨some 12, none, .build [.int .i64 0, .int .i64 0, .bool false, .bool false, .bool false, .int .u32 0, .nils] [(0, 1), (1, 1), (2, 1), (3, 1), (4, 1), (5, 1)], [.c (.int .i64 1500), .c (.int .i64 2), .c (.bool true), .c (.bool true), .c (.bool true), .t 11]⟩,
 ⟨some 10, none, .alloc [.int .i64 0, .int .i64 0, .bool false, .bool false, .bool false, .int .u32 0, .nils], []⟩,
 ⟨none, none, .store 7, [.t 10, .t 12]⟩])
 (.seq (.reg [[], [], [], [], [3], [], [0, 1, 2, 4, 5], [], [6, 4, 0, 1, 2, 3, 4, 5, 6], [7, 8, 0, 1, 2, 3, 4, 5, 6, 7, 8]]
 [⟨some 13, none, .mov, [.t 0]⟩,
 ⟨some 14, none, .mov, [.t 1]⟩,
 ⟨some 15, none, .mov, [.t 2]⟩,
 ⟨some 16, none, .mov, [.t 3]⟩,
 ⟨some 17, none, .call 27, [.t 16]⟩,
 ⟨some 18, none, .load (some 7), [.t 10]⟩,
 ⟨some 19, none, .build [.int .u32 0, .int .u32 0, .int .i64 0, .bool false, .int .u32 0, .nils, .nils, .int .i64 0, .int .i64 0, .bool false, .bool false, .bool false, .int .u32 0, .nils] [(0, 1), (1, 1), (4, 1), (5, 1), (7, 7)], [.t 13, .t 14, .t 15, .t 17, .t 18]⟩,
 ⟨some 20, none, .load (some 7), [.t 10]⟩,
 ⟨none, none, .store 14, [.t 8, .t 19]⟩,
 ⟨none, none, .store 7, [.t 9, .t 20]⟩])
 .ret))
theorem i9 : fnInfo Try.prog 9 = some (21, [.c 8 (some 14), .c 9 (some 7)], ac9) := by kernel_rfl
/-- "crossroads/exch.Hear": 40 temporaries, 2 parameters, results some [.c 4 (some 14), .c 5 (some 7), .t 6, .t 7]. -/
def ac15 : AC :=
 .seq (.reg []
 [⟨some 2, none, .box, [.t 0]⟩,
 ⟨some 3, none, .box, [.t 1]⟩,
 ⟨some 4, none, .alloc [.int .u32 0, .int .u32 0, .int .i64 0, .bool false, .int .u32 0, .nils, .nils, .int .i64 0, .int .i64 0, .bool false, .bool false, .bool false, .int .u32 0, .nils], []⟩,
 ⟨some 5, none, .alloc [.int .i64 0, .int .i64 0, .bool false, .bool false, .bool false, .int .u32 0, .nils], []⟩,
 ⟨some 6, none, .mov, [.c (.bool false)]⟩,
 ⟨some 7, none, .mov, [.c (.int .i64 0)]⟩])
 (.seq (.reg []
 [⟨some 9, none, .load (some 14), [.t 2]⟩,
 ⟨some 10, none, .build [.int .u32 0, .int .u32 0, .int .i64 0, .bool false, .int .u32 0, .nils, .nils, .int .i64 0, .int .i64 0, .bool false, .bool false, .bool false, .int .u32 0, .nils, .int .i64 0, .int .i64 0, .bool false, .bool false, .bool false, .int .u32 0, .nils, .bool false, .int .i64 0] [(0, 14)], [.t 9]⟩,
 ⟨some 11, none, .box, [.t 10]⟩,
 ⟨some 8, none, .mov, [.t 11]⟩])
 (.seq (.reg [[], [], [0, 1], [], [2, 3, 2]]
 [⟨some 12, none, .mov, [.t 8]⟩,
 ⟨some 13, none, .load (some 7), [.t 3]⟩,
 ⟨some 14, none, .call 28, [.t 12, .t 13]⟩,
 ⟨some 15, none, .load (some 7), [.t 3]⟩,
 ⟨some 16, none, .callv, [.t 14, .t 15]⟩])
 (.seq (.seq (.reg []
 [⟨some 17, none, .mov, [.t 8]⟩,
 ⟨some 18, none, .nilchk, [.t 17]⟩,
 ⟨some 19, none, .fldA 22, [.t 18]⟩,
 ⟨some 20, none, .load none, [.t 19]⟩,
 ⟨some 21, none, .bin .neq .scal, [.t 20, .c (.int .i64 0)]⟩])
 (.cond (.t 21)
 (.seq (.reg [[], [], [], [2], [3], [4], [0, 0], [1, 6, 0, 1, 6], [7, 0, 1, 6, 7], [5, 8, 0, 1, 2, 3, 4, 5, 6, 7, 8]]
 [⟨some 22, none, .load (some 14), [.t 2]⟩,
 ⟨some 23, none, .build [.int .i64 0, .int .i64 0, .bool false, .bool false, .bool false, .int .u32 0, .nils] [], []⟩,
 ⟨some 24, none, .mov, [.t 8]⟩,
 ⟨some 25, none, .nilchk, [.t 24]⟩,
 ⟨some 26, none, .fldA 22, [.t 25]⟩,
 ⟨some 27, none, .load none, [.t 26]⟩,
 ⟨none, none, .store 14, [.t 4, .t 22]⟩,
 ⟨none, none, .store 7, [.t 5, .t 23]⟩,
 ⟨some 6, none, .mov, [.c (.bool false)]⟩,
 ⟨some 7, none, .mov, [.t 27]⟩])
 .ret)
 .skip))
 (.seq (.reg [[], [0], [1], [2], [], [4], [5], [6], [], [8], [9], [10], [3, 0, 1, 2, 3], [7, 12, 0, 1, 2, 3, 4, 5, 6, 7, 12], [11, 13, 0, 1, 2, 3, 4, 5, 6, 7, 8, 9, 10, 11, 12, 13], [14, 0, 1, 2, 3, 4, 5, 6, 7, 8, 9, 10, 11, 12, 13, 14]]
 [⟨some 28, none, .mov, [.t 8]⟩,
 ⟨some 29, none, .nilchk, [.t 28]⟩,
 ⟨some 30, none, .fldA 0, [.t 29]⟩,
 ⟨some 31, none, .load (some 14), [.t 30]⟩,
 ⟨some 32, none, .mov, [.t 8]⟩,
 ⟨some 33, none, .nilchk, [.t 32]⟩,
 ⟨some 34, none, .fldA 14, [.t 33]⟩,
 ⟨some 35, none, .load (some 7), [.t 34]⟩,
 ⟨some 36, none, .mov, [.t 8]⟩,
 ⟨some 37, none, .nilchk, [.t 36]⟩,
 ⟨some 38, none, .fldA 21, [.t 37]⟩,
 ⟨some 39, none, .load none, [.t 38]⟩,
 ⟨none, none, .store 14, [.t 4, .t 31]⟩,
 ⟨none, none, .store 7, [.t 5, .t 35]⟩,
 ⟨some 6, none, .mov, [.t 39]⟩,
 ⟨some 7, none, .mov, [.c (.int .i64 0)]⟩])
 .ret))))
theorem i15 : fnInfo Try.prog 15 = some (40, [.c 4 (some 14), .c 5 (some 7), .t 6, .t 7], ac15) := by kernel_rfl
/-- "crossroads/exch.Again": 19 temporaries, 1 parameters, results some [.c 2 (some 7), .t 3]. -/
def ac17 : AC :=
 .seq (.reg []
 [⟨some 1, none, .box, [.t 0]⟩,
 ⟨some 2, none, .alloc [.int .i64 0, .int .i64 0, .bool false, .bool false, .bool false, .int .u32 0, .nils], []⟩,
 ⟨some 3, none, .mov, [.c (.bool false)]⟩])
 (.seq (.seq (.reg []
 [⟨some 4, none, .fldA 2, [.t 1]⟩,
 ⟨some 5, none, .load none, [.t 4]⟩,
 ⟨some 6, none, .bin .eql .scal, [.t 5, .c (.int .i64 0)]⟩,
 ⟨some 7, none, .mov, [.t 6]⟩,
 ⟨some 8, some (7, false), .fldA 3, [.t 1]⟩,
 ⟨some 9, some (7, false), .load none, [.t 8]⟩,
 ⟨some 10, some (7, false), .mov, [.t 9]⟩,
 ⟨some 11, some (10, true), .fldA 2, [.t 1]⟩,
 ⟨some 12, some (10, true), .load none, [.t 11]⟩,
 ⟨some 13, some (10, true), .bin .eql .scal, [.t 12, .c (.int .i64 1)]⟩,
 ⟨some 14, some (7, false), .pick, [.t 10, .t 13, .c (.bool false)]⟩,
 ⟨some 15, none, .pick, [.t 7, .c (.bool true), .t 14]⟩])
 (.cond (.t 15)
 (.seq (.reg []
 [⟨some 16, none, .fldA 7, [.t 1]⟩,
 ⟨some 17, none, .load (some 7), [.t 16]⟩,
 ⟨none, none, .store 7, [.t 2, .t 17]⟩,
 ⟨some 3, none, .mov, [.c (.bool true)]⟩])
 .ret)
 .skip))
 (.seq (.reg []
 [⟨some 18, none, .build [.int .i64 0, .int .i64 0, .bool false, .bool false, .bool false, .int .u32 0, .nils] [], []⟩,
 ⟨none, none, .store 7, [.t 2, .t 18]⟩,
 ⟨some 3, none, .mov, [.c (.bool false)]⟩])
 .ret))
theorem i17 : fnInfo Try.prog 17 = some (19, [.c 2 (some 7), .t 3], ac17) := by kernel_rfl
def ac19_1 : AC :=
 .seq (.reg []
 [⟨some 29, none, .bin .lss .scal, [.t 28, .t 27]⟩])
 (.seq (.cond (.t 29)
 .skip
 (.exit 0))
 (.seq (.block 1 (.seq (.reg []
 [⟨some 30, none, .idxA 1, [.t 26, .t 28]⟩,
 ⟨some 31, none, .load none, [.t 30]⟩,
 ⟨some 11, none, .mov, [.t 31]⟩])
 (.seq (.reg []
 [⟨some 32, none, .mov, [.t 8]⟩,
 ⟨some 33, none, .mov, [.t 9]⟩,
 ⟨some 12, none, .mov, [.t 32]⟩,
 ⟨some 13, none, .mov, [.t 33]⟩])
 (.seq (.seq (.reg []
 [⟨some 34, none, .mov, [.t 11]⟩,
 ⟨some 35, none, .bin .and .scal, [.t 34, .c (.int .i64 1)]⟩,
 ⟨some 36, none, .bin .neq .scal, [.t 35, .c (.int .i64 0)]⟩])
 (.cond (.t 36)
 (.reg []
 [⟨some 37, none, .mov, [.t 9]⟩,
 ⟨some 38, none, .mov, [.t 8]⟩,
 ⟨some 12, none, .mov, [.t 37]⟩,
 ⟨some 13, none, .mov, [.t 38]⟩])
 .skip))
 (.seq (.reg []
 [⟨some 39, none, .mov, [.t 11]⟩])
 (.block 2 (.seq (.seq (.reg []
 [⟨some 41, none, .bin .eql .scal, [.t 39, .c (.int .i64 0)]⟩,
 ⟨some 40, none, .mov, [.t 41]⟩])
 (.cond (.t 40)
 .skip
 (.reg []
 [⟨some 42, none, .bin .eql .scal, [.t 39, .c (.int .i64 1)]⟩,
 ⟨some 40, none, .mov, [.t 42]⟩])))
 (.cond (.t 40)
 (.reg []
 [⟨some 43, none, .mov, [.t 12]⟩,
 ⟨some 44, none, .mov, [.t 13]⟩,
 ⟨some 45, none, .call 32, [.t 43, .t 44, .c (.bool false)]⟩])
 (.seq (.seq (.reg []
 [⟨some 47, none, .bin .eql .scal, [.t 39, .c (.int .i64 2)]⟩,
 ⟨some 46, none, .mov, [.t 47]⟩])
 (.cond (.t 46)
 .skip
 (.reg []
 [⟨some 48, none, .bin .eql .scal, [.t 39, .c (.int .i64 3)]⟩,
 ⟨some 46, none, .mov, [.t 48]⟩])))
 (.cond (.t 46)
 (.reg []
 [⟨some 49, none, .mov, [.t 12]⟩,
 ⟨some 50, none, .call 33, [.t 49, .c (.bool false)]⟩])
 (.seq (.seq (.reg []
 [⟨some 52, none, .bin .eql .scal, [.t 39, .c (.int .i64 4)]⟩,
 ⟨some 51, none, .mov, [.t 52]⟩])
 (.cond (.t 51)
 .skip
 (.reg []
 [⟨some 53, none, .bin .eql .scal, [.t 39, .c (.int .i64 5)]⟩,
 ⟨some 51, none, .mov, [.t 53]⟩])))
 (.cond (.t 51)
 (.reg []
 [⟨some 54, none, .mov, [.t 12]⟩,
 ⟨some 55, none, .mov, [.t 13]⟩,
 ⟨some 56, none, .call 34, [.t 54, .t 55]⟩])
 (.seq (.seq (.reg []
 [⟨some 58, none, .bin .eql .scal, [.t 39, .c (.int .i64 6)]⟩,
 ⟨some 57, none, .mov, [.t 58]⟩])
 (.cond (.t 57)
 .skip
 (.reg []
 [⟨some 59, none, .bin .eql .scal, [.t 39, .c (.int .i64 7)]⟩,
 ⟨some 57, none, .mov, [.t 59]⟩])))
 (.cond (.t 57)
 (.reg []
 [⟨some 60, none, .mov, [.t 12]⟩,
 ⟨some 61, none, .mov, [.t 13]⟩,
 ⟨some 62, none, .call 32, [.t 60, .t 61, .c (.bool true)]⟩])
 .skip))))))))))))))
 (.reg []
 [⟨some 63, none, .bin .add .scal, [.t 28, .c (.int .i64 1)]⟩,
 ⟨some 28, none, .mov, [.t 63]⟩])))
/-- "crossroads/exch.Run": 72 temporaries, 3 parameters, results some [.c 6 (some 14), .c 7 (some 14)]. -/
def ac19 : AC :=
 .seq (.reg []
 [⟨some 3, none, .box, [.t 0]⟩,
 ⟨some 4, none, .box, [.t 1]⟩,
 ⟨some 6, none, .alloc [.int .u32 0, .int .u32 0, .int .i64 0, .bool false, .int .u32 0, .nils, .nils, .int .i64 0, .int .i64 0, .bool false, .bool false, .bool false, .int .u32 0, .nils], []⟩,
 ⟨some 7, none, .alloc [.int .u32 0, .int .u32 0, .int .i64 0, .bool false, .int .u32 0, .nils, .nils, .int .i64 0, .int .i64 0, .bool false, .bool false, .bool false, .int .u32 0, .nils], []⟩])
 (.seq (.reg [[], [], [1], [2], [0, 3], [4], [], [], [7], [8], [6, 9], [10], [5, 0, 1, 2, 3, 4, 5], [11, 12, 0, 1, 2, 3, 4, 5, 6, 7, 8, 9, 10, 11, 12]]
 [⟨some 14, none, .load (some 14), [.t 3]⟩,
 ⟨some 15, none, .fldA 7, [.t 4]⟩,
 ⟨some 16, none, .load (some 7), [.t 15]⟩,
 ⟨some 17, none, .bslice 7 29, [.t 16]⟩,
 ⟨some 18, none, .build [.int .u32 0, .int .u32 0, .int .i64 0, .bool false, .int .u32 0, .nils, .nils, .int .i64 0, .int .i64 0, .bool false, .bool false, .bool false, .int .u32 0, .nils, .nils] [(0, 14), (14, 1)], [.t 14, .t 17]⟩,
 ⟨some 19, none, .box, [.t 18]⟩,
 ⟨some 20, none, .load (some 14), [.t 4]⟩,
 ⟨some 21, none, .fldA 7, [.t 3]⟩,
 ⟨some 22, none, .load (some 7), [.t 21]⟩,
 ⟨some 23, none, .bslice 7 29, [.t 22]⟩,
 ⟨some 24, none, .build [.int .u32 0, .int .u32 0, .int .i64 0, .bool false, .int .u32 0, .nils, .nils, .int .i64 0, .int .i64 0, .bool false, .bool false, .bool false, .int .u32 0, .nils, .nils] [(0, 14), (14, 1)], [.t 20, .t 23]⟩,
 ⟨some 25, none, .box, [.t 24]⟩,
 ⟨some 8, none, .mov, [.t 19]⟩,
 ⟨some 9, none, .mov, [.t 25]⟩])
 (.seq (.seq (.reg []
 [⟨some 26, none, .mov, [.t 2]⟩,
 ⟨some 27, none, .lenL, [.t 26]⟩,
 ⟨some 28, none, .mov, [.c (.int .i64 0)]⟩])
 (.block 0 (.loop ac19_1)))
 (.seq (.reg [[], [0], [1], [2], [], [4], [5], [6], [3, 0, 1, 2, 3], [7, 8, 0, 1, 2, 3, 4, 5, 6, 7, 8]]
 [⟨some 64, none, .mov, [.t 8]⟩,
 ⟨some 65, none, .nilchk, [.t 64]⟩,
 ⟨some 66, none, .fldA 0, [.t 65]⟩,
 ⟨some 67, none, .load (some 14), [.t 66]⟩,
 ⟨some 68, none, .mov, [.t 9]⟩,
 ⟨some 69, none, .nilchk, [.t 68]⟩,
 ⟨some 70, none, .fldA 0, [.t 69]⟩,
 ⟨some 71, none, .load (some 14), [.t 70]⟩,
 ⟨none, none, .store 14, [.t 6, .t 67]⟩,
 ⟨none, none, .store 14, [.t 7, .t 71]⟩])
 .ret)))
theorem i19 : fnInfo Try.prog 19 = some (72, [.c 6 (some 14), .c 7 (some 14)], ac19) := by kernel_rfl
/-- "slices.Clone[[]crossroads/api.Header,crossroads/api.Header]": 8 temporaries, 1 parameters, results some [.t 2]. -/
def ac27 : AC :=
 .seq (.reg []
 [⟨some 2, none, .mov, [.c .nils]⟩])
 (.seq (.seq (.reg []
 [⟨some 3, none, .mov, [.t 0]⟩,
 ⟨some 4, none, .bin .eql .sl, [.t 3, .c .nils]⟩])
 (.cond (.t 4)
 (.seq (.reg []
 [⟨some 2, none, .mov, [.c .nils]⟩])
 .ret)
 .skip))
 (.seq (.reg []
 [⟨some 5, none, .bslice 8 67, []⟩,
 ⟨some 6, none, .mov, [.t 0]⟩,
 ⟨some 7, none, .append 8 67 56, [.t 5, .t 6]⟩,
 ⟨some 2, none, .mov, [.t 7]⟩])
 .ret))
theorem i27 : fnInfo Try.prog 27 = some (8, [.t 2], ac27) := by kernel_rfl
/-- "(*crossroads/exch.talk).hears": 38 temporaries, 2 parameters, results some [.t 4]. -/
def ac28 : AC :=
 .seq (.reg []
 [⟨some 2, none, .box, [.t 0]⟩,
 ⟨some 3, none, .box, [.t 1]⟩,
 ⟨some 4, none, .mov, [.c .nilf]⟩])
 (.seq (.block 0 (.seq (.reg []
 [⟨some 6, none, .load none, [.t 2]⟩,
 ⟨some 7, none, .nilchk, [.t 6]⟩,
 ⟨some 8, none, .fldA 0, [.t 7]⟩,
 ⟨some 9, none, .fldA 2, [.t 8]⟩,
 ⟨some 10, none, .load none, [.t 9]⟩,
 ⟨some 11, none, .bin .eql .scal, [.t 10, .c (.int .i64 0)]⟩,
 ⟨some 5, none, .mov, [.t 11]⟩])
 (.cond (.t 5)
 (.seq (.reg []
 [⟨some 12, none, .load none, [.t 2]⟩,
 ⟨some 13, none, .mkfn 44 1, [.t 12]⟩,
 ⟨some 4, none, .mov, [.t 13]⟩])
 .ret)
 (.seq (.reg [[], [0], [1], [2], [3, 2], [2], [5, 2], [6, 2], [7, 2], [8, 2], [4, 9, 2], [2, 10], [11, 2]]
 [⟨some 15, none, .fldA 2, [.t 3]⟩,
 ⟨some 16, none, .load none, [.t 15]⟩,
 ⟨some 17, none, .mov, [.t 16]⟩,
 ⟨some 18, some (17, false), .fldA 4, [.t 3]⟩,
 ⟨some 19, some (17, false), .load none, [.t 18]⟩,
 ⟨some 20, some (17, false), .load none, [.t 2]⟩,
 ⟨some 21, some (17, false), .nilchk, [.t 20]⟩,
 ⟨some 22, some (17, false), .fldA 0, [.t 21]⟩,
 ⟨some 23, some (17, false), .fldA 3, [.t 22]⟩,
 ⟨some 24, some (17, false), .load none, [.t 23]⟩,
 ⟨some 25, some (17, false), .bin .eql .bool, [.t 19, .t 24]⟩,
 ⟨some 26, none, .pick, [.t 17, .c (.bool true), .t 25]⟩,
 ⟨some 14, none, .mov, [.t 26]⟩])
 (.cond (.t 14)
 (.seq (.reg []
 [⟨some 27, none, .mkfn 45 0, [.t 2]⟩,
 ⟨some 4, none, .mov, [.t 27]⟩])
 .ret)
 (.seq (.reg []
 [⟨some 29, none, .load none, [.t 2]⟩,
 ⟨some 30, none, .nilchk, [.t 29]⟩,
 ⟨some 31, none, .fldA 0, [.t 30]⟩,
 ⟨some 32, none, .fldA 3, [.t 31]⟩,
 ⟨some 33, none, .load none, [.t 32]⟩,
 ⟨some 28, none, .mov, [.t 33]⟩])
 (.cond (.t 28)
 (.seq (.reg []
 [⟨some 34, none, .load none, [.t 2]⟩,
 ⟨some 35, none, .mkfn 46 1, [.t 34]⟩,
 ⟨some 4, none, .mov, [.t 35]⟩])
 .ret)
 .skip)))))))
 (.seq (.reg []
 [⟨some 36, none, .load none, [.t 2]⟩,
 ⟨some 37, none, .mkfn 47 1, [.t 36]⟩,
 ⟨some 4, none, .mov, [.t 37]⟩])
 .ret))
theorem i28 : fnInfo Try.prog 28 = some (38, [.t 4], ac28) := by kernel_rfl
/-- "(*crossroads/exch.end).hear": 46 temporaries, 3 parameters, results some []. -/
def ac32 : AC :=
 .seq (.reg []
 [⟨some 13, none, .mov, [.t 0]⟩,
 ⟨some 14, none, .mov, [.t 2]⟩,
 ⟨some 15, none, .call 33, [.t 13, .t 14]⟩,
 ⟨some 12, none, .mov, [.t 15]⟩,
 ⟨some 16, none, .ext 0, [.t 12]⟩,
 ⟨some 17, none, .ext 1, [.t 12]⟩,
 ⟨some 6, none, .alloc [.int .i64 0, .int .i64 0, .bool false, .bool false, .bool false, .int .u32 0, .nils], []⟩,
 ⟨none, none, .store 7, [.t 6, .t 16]⟩,
 ⟨some 7, none, .mov, [.t 17]⟩])
 (.seq (.seq (.reg []
 [⟨some 18, none, .mov, [.t 7]⟩,
 ⟨some 19, none, .unNot, [.t 18]⟩])
 (.cond (.t 19)
 .ret
 .skip))
 (.seq (.reg [[], [0], [1], [2], [], [3, 4], [5], [6], [6], [6], [6], [], [], [11, 7, 5, 0, 1, 2, 3, 4, 5, 6, 7, 11, 12], [12, 8, 13, 0, 1, 2, 3, 4, 5, 6, 7, 8, 11, 12, 13], [9, 14, 0, 1, 2, 3, 4, 5, 6, 7, 8, 9, 11, 12, 13, 14], [10, 15, 0, 1, 2, 3, 4, 5, 6, 7, 8, 9, 10, 11, 12, 13, 14, 15]]
 [⟨some 21, none, .mov, [.t 0]⟩,
 ⟨some 22, none, .nilchk, [.t 21]⟩,
 ⟨some 23, none, .fldA 0, [.t 22]⟩,
 ⟨some 24, none, .load (some 14), [.t 23]⟩,
 ⟨some 25, none, .load (some 7), [.t 6]⟩,
 ⟨some 26, none, .call 15, [.t 24, .t 25]⟩,
 ⟨some 20, none, .mov, [.t 26]⟩,
 ⟨some 27, none, .ext 0, [.t 20]⟩,
 ⟨some 28, none, .ext 1, [.t 20]⟩,
 ⟨some 29, none, .ext 2, [.t 20]⟩,
 ⟨some 30, none, .ext 3, [.t 20]⟩,
 ⟨some 8, none, .alloc [.int .u32 0, .int .u32 0, .int .i64 0, .bool false, .int .u32 0, .nils, .nils, .int .i64 0, .int .i64 0, .bool false, .bool false, .bool false, .int .u32 0, .nils], []⟩,
 ⟨some 9, none, .alloc [.int .i64 0, .int .i64 0, .bool false, .bool false, .bool false, .int .u32 0, .nils], []⟩,
 ⟨none, none, .store 14, [.t 8, .t 27]⟩,
 ⟨none, none, .store 7, [.t 9, .t 28]⟩,
 ⟨some 10, none, .mov, [.t 29]⟩,
 ⟨some 11, none, .mov, [.t 30]⟩])
 (.seq (.reg []
 [⟨some 31, none, .mov, [.t 0]⟩,
 ⟨some 32, none, .load (some 14), [.t 8]⟩,
 ⟨some 33, none, .nilchk, [.t 31]⟩,
 ⟨some 34, none, .fldA 0, [.t 33]⟩,
 ⟨none, none, .store 14, [.t 34, .t 32]⟩])
 (.seq (.reg []
 [⟨some 35, none, .mov, [.t 10]⟩])
 (.cond (.t 35)
 (.reg [[], [], [1], [2], [3], [], [5], [4, 6], [0, 0, 1, 2, 3, 4, 5, 6, 7], [8, 0, 1, 2, 3, 4, 5, 6, 7], [9, 7, 7, 0, 1, 2, 3, 4, 5, 6, 7]]
 [⟨some 36, none, .mov, [.t 1]⟩,
 ⟨some 37, none, .mov, [.t 1]⟩,
 ⟨some 38, none, .nilchk, [.t 37]⟩,
 ⟨some 39, none, .fldA 14, [.t 38]⟩,
 ⟨some 40, none, .load none, [.t 39]⟩,
 ⟨some 41, none, .load (some 7), [.t 9]⟩,
 ⟨some 42, none, .bslice 7 29, [.t 41]⟩,
 ⟨some 43, none, .append 7 29 48, [.t 40, .t 42]⟩,
 ⟨some 44, none, .nilchk, [.t 36]⟩,
 ⟨some 45, none, .fldA 14, [.t 44]⟩,
 ⟨none, none, .store 1, [.t 45, .t 43]⟩])
 .skip)))))
theorem i32 : fnInfo Try.prog 32 = some (46, [], ac32) := by kernel_rfl
/-- "(*crossroads/exch.end).next": 40 temporaries, 2 parameters, results some [.c 4 (some 7), .t 5]. -/
def ac33 : AC :=
 .seq (.reg []
 [⟨some 4, none, .alloc [.int .i64 0, .int .i64 0, .bool false, .bool false, .bool false, .int .u32 0, .nils], []⟩,
 ⟨some 5, none, .mov, [.c (.bool false)]⟩])
 (.seq (.seq (.reg []
 [⟨some 7, none, .mov, [.t 0]⟩,
 ⟨some 8, none, .nilchk, [.t 7]⟩,
 ⟨some 9, none, .fldA 14, [.t 8]⟩,
 ⟨some 10, none, .load none, [.t 9]⟩,
 ⟨some 11, none, .lenL, [.t 10]⟩,
 ⟨some 12, none, .bin .eql .scal, [.t 11, .c (.int .i64 0)]⟩])
 (.cond (.t 12)
 (.seq (.reg []
 [⟨some 13, none, .build [.int .i64 0, .int .i64 0, .bool false, .bool false, .bool false, .int .u32 0, .nils] [], []⟩,
 ⟨none, none, .store 7, [.t 4, .t 13]⟩,
 ⟨some 5, none, .mov, [.c (.bool false)]⟩])
 .ret)
 .skip))
 (.seq (.reg []
 [⟨some 14, none, .mov, [.t 0]⟩,
 ⟨some 15, none, .nilchk, [.t 14]⟩,
 ⟨some 16, none, .fldA 14, [.t 15]⟩,
 ⟨some 17, none, .load none, [.t 16]⟩,
 ⟨some 18, none, .idxA 7, [.t 17, .c (.int .i64 0)]⟩,
 ⟨some 19, none, .load (some 7), [.t 18]⟩,
 ⟨some 6, none, .alloc [.int .i64 0, .int .i64 0, .bool false, .bool false, .bool false, .int .u32 0, .nils], []⟩,
 ⟨none, none, .store 7, [.t 6, .t 19]⟩])
 (.seq (.reg []
 [⟨some 20, none, .mov, [.t 0]⟩,
 ⟨some 21, none, .mov, [.t 0]⟩,
 ⟨some 22, none, .nilchk, [.t 21]⟩,
 ⟨some 23, none, .fldA 14, [.t 22]⟩,
 ⟨some 24, none, .load none, [.t 23]⟩,
 ⟨some 25, none, .slice 7 true false, [.t 24, .c (.int .i64 1)]⟩,
 ⟨some 26, none, .nilchk, [.t 20]⟩,
 ⟨some 27, none, .fldA 14, [.t 26]⟩,
 ⟨none, none, .store 1, [.t 27, .t 25]⟩])
 (.seq (.seq (.reg []
 [⟨some 28, none, .mov, [.t 1]⟩])
 (.cond (.t 28)
 (.reg [[], [], [1], [2], [3], [], [5], [4, 6], [0, 0, 1, 2, 3, 4, 5, 6, 7], [8, 0, 1, 2, 3, 4, 5, 6, 7], [9, 7, 7, 0, 1, 2, 3, 4, 5, 6, 7]]
 [⟨some 29, none, .mov, [.t 0]⟩,
 ⟨some 30, none, .mov, [.t 0]⟩,
 ⟨some 31, none, .nilchk, [.t 30]⟩,
 ⟨some 32, none, .fldA 14, [.t 31]⟩,
 ⟨some 33, none, .load none, [.t 32]⟩,
 ⟨some 34, none, .load (some 7), [.t 6]⟩,
 ⟨some 35, none, .bslice 7 29, [.t 34]⟩,
 ⟨some 36, none, .append 7 29 48, [.t 33, .t 35]⟩,
 ⟨some 37, none, .nilchk, [.t 29]⟩,
 ⟨some 38, none, .fldA 14, [.t 37]⟩,
 ⟨none, none, .store 1, [.t 38, .t 36]⟩])
 .skip))
 (.seq (.reg []
 [⟨some 39, none, .load (some 7), [.t 6]⟩,
 ⟨none, none, .store 7, [.t 4, .t 39]⟩,
 ⟨some 5, none, .mov, [.c (.bool true)]⟩])
 .ret)))))
theorem i33 : fnInfo Try.prog 33 = some (40, [.c 4 (some 7), .t 5], ac33) := by kernel_rfl
/-- "(*crossroads/exch.end).remind": 25 temporaries, 2 parameters, results some []. -/
def ac34 : AC :=
 .seq (.reg []
 [⟨some 7, none, .mov, [.t 0]⟩,
 ⟨some 8, none, .nilchk, [.t 7]⟩,
 ⟨some 9, none, .fldA 0, [.t 8]⟩,
 ⟨some 10, none, .load (some 14), [.t 9]⟩,
 ⟨some 11, none, .call 17, [.t 10]⟩,
 ⟨some 6, none, .mov, [.t 11]⟩,
 ⟨some 12, none, .ext 0, [.t 6]⟩,
 ⟨some 13, none, .ext 1, [.t 6]⟩,
 ⟨some 4, none, .alloc [.int .i64 0, .int .i64 0, .bool false, .bool false, .bool false, .int .u32 0, .nils], []⟩,
 ⟨none, none, .store 7, [.t 4, .t 12]⟩,
 ⟨some 5, none, .mov, [.t 13]⟩])
 (.seq (.reg []
 [⟨some 14, none, .mov, [.t 5]⟩])
 (.cond (.t 14)
 (.reg [[], [], [1], [2], [3], [], [5], [4, 6], [0, 0, 1, 2, 3, 4, 5, 6, 7], [8, 0, 1, 2, 3, 4, 5, 6, 7], [9, 7, 7, 0, 1, 2, 3, 4, 5, 6, 7]]
 [⟨some 15, none, .mov, [.t 1]⟩,
 ⟨some 16, none, .mov, [.t 1]⟩,
 ⟨some 17, none, .nilchk, [.t 16]⟩,
 ⟨some 18, none, .fldA 14, [.t 17]⟩,
 ⟨some 19, none, .load none, [.t 18]⟩,
 ⟨some 20, none, .load (some 7), [.t 4]⟩,
 ⟨some 21, none, .bslice 7 29, [.t 20]⟩,
 ⟨some 22, none, .append 7 29 48, [.t 19, .t 21]⟩,
 ⟨some 23, none, .nilchk, [.t 15]⟩,
 ⟨some 24, none, .fldA 14, [.t 23]⟩,
 ⟨none, none, .store 1, [.t 24, .t 22]⟩])
 .skip))
theorem i34 : fnInfo Try.prog 34 = some (25, [], ac34) := by kernel_rfl
/-- "(*crossroads/exch.talk).begin": 93 temporaries, 2 parameters, results some []. -/
def ac44 : AC :=
 .seq (.reg []
 [⟨some 3, none, .box, [.t 1]⟩])
 (.seq (.reg []
 [⟨some 6, none, .fldA 2, [.t 3]⟩,
 ⟨some 7, none, .load none, [.t 6]⟩,
 ⟨some 8, none, .mov, [.t 7]⟩,
 ⟨some 9, some (8, true), .fldA 3, [.t 3]⟩,
 ⟨some 10, some (8, true), .load none, [.t 9]⟩,
 ⟨some 11, none, .pick, [.t 8, .t 10, .c (.bool false)]⟩,
 ⟨some 12, none, .mov, [.t 11]⟩,
 ⟨some 13, some (12, true), .fldA 4, [.t 3]⟩,
 ⟨some 14, some (12, true), .load none, [.t 13]⟩,
 ⟨some 15, none, .pick, [.t 12, .t 14, .c (.bool false)]⟩,
 ⟨some 16, none, .mov, [.t 15]⟩,
 ⟨some 17, some (16, true), .fldA 6, [.t 3]⟩,
 ⟨some 18, some (16, true), .load none, [.t 17]⟩,
 ⟨some 19, some (16, true), .lenL, [.t 18]⟩,
 ⟨some 20, some (16, true), .bin .eql .scal, [.t 19, .c (.int .i64 0)]⟩,
 ⟨some 21, none, .pick, [.t 16, .t 20, .c (.bool false)]⟩,
 ⟨some 4, none, .mov, [.t 21]⟩])
 (.seq (.reg [[], [0], [1], [2], [3], [4, 3], [5, 3], [3, 6], [7, 3], [8], [9, 8], [8], [11, 8], [12, 8], [13, 8], [14, 8], [10, 15, 8], [8, 16], [17, 8, 0, 1, 2, 3, 4, 5, 6, 7, 8, 9, 10, 11, 12, 13, 14, 15, 16, 17]]
 [⟨some 22, none, .fldA 2, [.t 3]⟩,
 ⟨some 23, none, .load none, [.t 22]⟩,
 ⟨some 24, none, .unNot, [.t 23]⟩,
 ⟨some 25, none, .mov, [.t 24]⟩,
 ⟨some 26, some (25, true), .fldA 4, [.t 3]⟩,
 ⟨some 27, some (25, true), .load none, [.t 26]⟩,
 ⟨some 28, some (25, true), .unNot, [.t 27]⟩,
 ⟨some 29, none, .pick, [.t 25, .t 28, .c (.bool false)]⟩,
 ⟨some 30, none, .mov, [.t 29]⟩,
 ⟨some 31, some (30, true), .fldA 5, [.t 3]⟩,
 ⟨some 32, some (30, true), .load none, [.t 31]⟩,
 ⟨some 33, some (30, true), .mov, [.t 0]⟩,
 ⟨some 34, some (30, true), .nilchk, [.t 33]⟩,
 ⟨some 35, some (30, true), .fldA 0, [.t 34]⟩,
 ⟨some 36, some (30, true), .fldA 4, [.t 35]⟩,
 ⟨some 37, some (30, true), .load none, [.t 36]⟩,
 ⟨some 38, some (30, true), .bin .eql .scal, [.t 32, .t 37]⟩,
 ⟨some 39, none, .pick, [.t 30, .t 38, .c (.bool false)]⟩,
 ⟨some 5, none, .mov, [.t 39]⟩])
 (.block 0 (.seq (.reg [[], [0], [1], [2, 1], [3, 1], [4, 1], [5, 1], [1], [7, 1], [8, 1], [9, 1], [10, 1], [6, 11, 1], [1, 12], [13, 1]]
 [⟨some 41, none, .mov, [.t 4]⟩,
 ⟨some 42, none, .mov, [.t 41]⟩,
 ⟨some 43, some (42, true), .mov, [.t 0]⟩,
 ⟨some 44, some (42, true), .nilchk, [.t 43]⟩,
 ⟨some 45, some (42, true), .fldA 0, [.t 44]⟩,
 ⟨some 46, some (42, true), .fldA 1, [.t 45]⟩,
 ⟨some 47, some (42, true), .load none, [.t 46]⟩,
 ⟨some 48, some (42, true), .mov, [.t 0]⟩,
 ⟨some 49, some (42, true), .nilchk, [.t 48]⟩,
 ⟨some 50, some (42, true), .fldA 0, [.t 49]⟩,
 ⟨some 51, some (42, true), .fldA 0, [.t 50]⟩,
 ⟨some 52, some (42, true), .load none, [.t 51]⟩,
 ⟨some 53, some (42, true), .bin .gtr .scal, [.t 47, .t 52]⟩,
 ⟨some 54, none, .pick, [.t 42, .t 53, .c (.bool false)]⟩,
 ⟨some 40, none, .mov, [.t 54]⟩])
 (.cond (.t 40)
 (.seq (.reg [[], [], [], [2], [0, 0], [4, 0], [5, 0], [6, 0], [1, 0, 1, 2, 3, 4, 5, 6, 7], [8, 0, 1, 2, 3, 4, 5, 6, 7], [9, 0, 1, 2, 3, 4, 5, 6, 7], [10, 3, 7, 0, 1, 2, 3, 4, 5, 6, 7]]
 [⟨some 55, none, .mov, [.t 0]⟩,
 ⟨some 56, none, .mov, [.t 0]⟩,
 ⟨some 57, none, .fldA 5, [.t 3]⟩,
 ⟨some 58, none, .load none, [.t 57]⟩,
 ⟨some 59, none, .nilchk, [.t 55]⟩,
 ⟨some 60, none, .fldA 0, [.t 59]⟩,
 ⟨some 61, none, .fldA 2, [.t 60]⟩,
 ⟨none, none, .store 1, [.t 61, .c (.int .i64 1)]⟩,
 ⟨some 62, none, .nilchk, [.t 56]⟩,
 ⟨some 63, none, .fldA 0, [.t 62]⟩,
 ⟨some 64, none, .fldA 4, [.t 63]⟩,
 ⟨none, none, .store 1, [.t 64, .t 58]⟩])
 (.reg []
 [⟨some 65, none, .mov, [.t 0]⟩,
 ⟨some 66, none, .call 63, [.t 65]⟩]))
 (.seq (.reg [[], [0], [1], [2, 1], [3, 1], [4, 1], [5, 1], [1], [7, 1], [8, 1], [9, 1], [10, 1], [6, 11, 1], [1, 12], [13, 1]]
 [⟨some 68, none, .mov, [.t 5]⟩,
 ⟨some 69, none, .mov, [.t 68]⟩,
 ⟨some 70, some (69, true), .mov, [.t 0]⟩,
 ⟨some 71, some (69, true), .nilchk, [.t 70]⟩,
 ⟨some 72, some (69, true), .fldA 0, [.t 71]⟩,
 ⟨some 73, some (69, true), .fldA 1, [.t 72]⟩,
 ⟨some 74, some (69, true), .load none, [.t 73]⟩,
 ⟨some 75, some (69, true), .mov, [.t 0]⟩,
 ⟨some 76, some (69, true), .nilchk, [.t 75]⟩,
 ⟨some 77, some (69, true), .fldA 0, [.t 76]⟩,
 ⟨some 78, some (69, true), .fldA 0, [.t 77]⟩,
 ⟨some 79, some (69, true), .load none, [.t 78]⟩,
 ⟨some 80, some (69, true), .bin .lss .scal, [.t 74, .t 79]⟩,
 ⟨some 81, none, .pick, [.t 69, .t 80, .c (.bool false)]⟩,
 ⟨some 67, none, .mov, [.t 81]⟩])
 (.cond (.t 67)
 (.seq (.reg []
 [⟨some 82, none, .mov, [.t 0]⟩,
 ⟨some 83, none, .mov, [.t 0]⟩,
 ⟨some 84, none, .nilchk, [.t 82]⟩,
 ⟨some 85, none, .fldA 0, [.t 84]⟩,
 ⟨some 86, none, .fldA 2, [.t 85]⟩,
 ⟨none, none, .store 1, [.t 86, .c (.int .i64 1)]⟩,
 ⟨some 87, none, .nilchk, [.t 83]⟩,
 ⟨some 88, none, .fldA 0, [.t 87]⟩,
 ⟨some 89, none, .fldA 3, [.t 88]⟩,
 ⟨none, none, .store 1, [.t 89, .c (.bool true)]⟩])
 (.reg []
 [⟨some 90, none, .mov, [.t 0]⟩,
 ⟨some 91, none, .load (some 7), [.t 3]⟩,
 ⟨some 92, none, .call 46, [.t 90, .t 91]⟩]))
 .skip)))))))
theorem i44 : fnInfo Try.prog 44 = some (93, [], ac44) := by kernel_rfl
/-- "(*crossroads/exch.talk).hears$1": 6 temporaries, 1 parameters, results some []. -/
def ac45 : AC :=
 .seq (.reg []
 [⟨some 2, none, .box, [.t 0]⟩])
 (.reg []
 [⟨some 3, none, .load none, [.t 1]⟩,
 ⟨some 4, none, .nilchk, [.t 3]⟩,
 ⟨some 5, none, .fldA 22, [.t 4]⟩,
 ⟨none, none, .store 1, [.t 5, .c (.int .i64 13)]⟩])
theorem i45 : fnInfo Try.prog 45 = some (6, [], ac45) := by kernel_rfl
/-- "(*crossroads/exch.talk).lead": 74 temporaries, 2 parameters, results some []. -/
def ac46 : AC :=
 .seq (.reg []
 [⟨some 3, none, .box, [.t 1]⟩])
 (.seq (.block 0 (.seq (.reg [[], [0], [], [2], [3], [4], [5], [6], [1, 7], [8], [9], [10, 9], [9], [12, 9], [13, 9], [14, 9], [15, 9], [11, 16, 9], [17, 9, 9], [18], [19, 18], [20, 18], [21, 18], [22, 18], [23, 18], [18, 24, 9], [9, 25], [26, 18]]
 [⟨some 5, none, .fldA 5, [.t 3]⟩,
 ⟨some 6, none, .load none, [.t 5]⟩,
 ⟨some 7, none, .mov, [.t 0]⟩,
 ⟨some 8, none, .nilchk, [.t 7]⟩,
 ⟨some 9, none, .fldA 0, [.t 8]⟩,
 ⟨some 10, none, .fldA 4, [.t 9]⟩,
 ⟨some 11, none, .load none, [.t 10]⟩,
 ⟨some 12, none, .bin .sub .scal, [.t 11, .c (.int .u32 1)]⟩,
 ⟨some 13, none, .bin .eql .scal, [.t 6, .t 12]⟩,
 ⟨some 14, none, .mov, [.t 13]⟩,
 ⟨some 15, some (14, false), .fldA 5, [.t 3]⟩,
 ⟨some 16, some (14, false), .load none, [.t 15]⟩,
 ⟨some 17, some (14, false), .mov, [.t 0]⟩,
 ⟨some 18, some (14, false), .nilchk, [.t 17]⟩,
 ⟨some 19, some (14, false), .fldA 0, [.t 18]⟩,
 ⟨some 20, some (14, false), .fldA 4, [.t 19]⟩,
 ⟨some 21, some (14, false), .load none, [.t 20]⟩,
 ⟨some 22, some (14, false), .bin .eql .scal, [.t 16, .t 21]⟩,
 ⟨some 23, some (14, false), .mov, [.t 22]⟩,
 ⟨some 24, some (23, true), .mov, [.t 0]⟩,
 ⟨some 25, some (23, true), .nilchk, [.t 24]⟩,
 ⟨some 26, some (23, true), .fldA 0, [.t 25]⟩,
 ⟨some 27, some (23, true), .fldA 2, [.t 26]⟩,
 ⟨some 28, some (23, true), .load none, [.t 27]⟩,
 ⟨some 29, some (23, true), .bin .eql .scal, [.t 28, .c (.int .i64 2)]⟩,
 ⟨some 30, some (14, false), .pick, [.t 23, .t 29, .c (.bool false)]⟩,
 ⟨some 31, none, .pick, [.t 14, .c (.bool true), .t 30]⟩,
 ⟨some 4, none, .mov, [.t 31]⟩])
 (.cond (.t 4)
 .ret
 (.seq (.reg [[], [0], [], [2], [3], [4], [5], [1, 6], [7]]
 [⟨some 33, none, .fldA 5, [.t 3]⟩,
 ⟨some 34, none, .load none, [.t 33]⟩,
 ⟨some 35, none, .mov, [.t 0]⟩,
 ⟨some 36, none, .nilchk, [.t 35]⟩,
 ⟨some 37, none, .fldA 0, [.t 36]⟩,
 ⟨some 38, none, .fldA 4, [.t 37]⟩,
 ⟨some 39, none, .load none, [.t 38]⟩,
 ⟨some 40, none, .bin .neq .scal, [.t 34, .t 39]⟩,
 ⟨some 32, none, .mov, [.t 40]⟩])
 (.cond (.t 32)
 (.seq (.reg []
 [⟨some 41, none, .mov, [.t 0]⟩,
 ⟨some 42, none, .nilchk, [.t 41]⟩,
 ⟨some 43, none, .fldA 22, [.t 42]⟩,
 ⟨none, none, .store 1, [.t 43, .c (.int .i64 13)]⟩])
 .ret)
 .skip)))))
 (.seq (.reg []
 [⟨some 44, none, .mov, [.t 0]⟩,
 ⟨some 45, none, .load (some 7), [.t 3]⟩,
 ⟨some 46, none, .call 64, [.t 44, .t 45]⟩])
 (.seq (.seq (.reg []
 [⟨some 47, none, .mov, [.t 0]⟩,
 ⟨some 48, none, .nilchk, [.t 47]⟩,
 ⟨some 49, none, .fldA 0, [.t 48]⟩,
 ⟨some 50, none, .fldA 7, [.t 49]⟩,
 ⟨some 51, none, .fldA 3, [.t 50]⟩,
 ⟨some 52, none, .load none, [.t 51]⟩,
 ⟨some 53, none, .unNot, [.t 52]⟩,
 ⟨some 54, none, .mov, [.t 53]⟩,
 ⟨some 55, some (54, true), .fldA 3, [.t 3]⟩,
 ⟨some 56, some (54, true), .load none, [.t 55]⟩,
 ⟨some 57, some (54, true), .unNot, [.t 56]⟩,
 ⟨some 58, none, .pick, [.t 54, .t 57, .c (.bool false)]⟩])
 (.cond (.t 58)
 (.seq (.reg []
 [⟨some 59, none, .mov, [.t 0]⟩,
 ⟨some 60, none, .nilchk, [.t 59]⟩,
 ⟨some 61, none, .fldA 0, [.t 60]⟩,
 ⟨some 62, none, .fldA 2, [.t 61]⟩,
 ⟨none, none, .store 1, [.t 62, .c (.int .i64 2)]⟩])
 .ret)
 .skip))
 (.seq (.reg []
 [⟨some 63, none, .mov, [.t 0]⟩,
 ⟨some 64, none, .nilchk, [.t 63]⟩,
 ⟨some 65, none, .fldA 0, [.t 64]⟩,
 ⟨some 66, none, .fldA 4, [.t 65]⟩,
 ⟨some 67, none, .load none, [.t 66]⟩,
 ⟨some 68, none, .bin .add .scal, [.t 67, .c (.int .u32 1)]⟩,
 ⟨some 69, none, .nilchk, [.t 63]⟩,
 ⟨some 70, none, .fldA 0, [.t 69]⟩,
 ⟨some 71, none, .fldA 4, [.t 70]⟩,
 ⟨none, none, .store 1, [.t 71, .t 68]⟩])
 (.reg []
 [⟨some 72, none, .mov, [.t 0]⟩,
 ⟨some 73, none, .call 63, [.t 72]⟩])))))
theorem i46 : fnInfo Try.prog 46 = some (74, [], ac46) := by kernel_rfl
/-- "(*crossroads/exch.talk).follow": 67 temporaries, 2 parameters, results some []. -/
def ac47 : AC :=
 .seq (.reg []
 [⟨some 3, none, .box, [.t 1]⟩])
 (.seq (.block 0 (.seq (.reg [[], [0], [], [2], [3], [4], [5], [1, 6], [7]]
 [⟨some 5, none, .fldA 5, [.t 3]⟩,
 ⟨some 6, none, .load none, [.t 5]⟩,
 ⟨some 7, none, .mov, [.t 0]⟩,
 ⟨some 8, none, .nilchk, [.t 7]⟩,
 ⟨some 9, none, .fldA 0, [.t 8]⟩,
 ⟨some 10, none, .fldA 4, [.t 9]⟩,
 ⟨some 11, none, .load none, [.t 10]⟩,
 ⟨some 12, none, .bin .eql .scal, [.t 6, .t 11]⟩,
 ⟨some 4, none, .mov, [.t 12]⟩])
 (.cond (.t 4)
 (.seq (.reg []
 [⟨some 13, none, .mov, [.t 0]⟩,
 ⟨some 14, none, .mov, [.t 0]⟩,
 ⟨some 15, none, .nilchk, [.t 14]⟩,
 ⟨some 16, none, .fldA 0, [.t 15]⟩,
 ⟨some 17, none, .fldA 7, [.t 16]⟩,
 ⟨some 18, none, .load (some 7), [.t 17]⟩,
 ⟨some 19, none, .call 65, [.t 13, .t 18]⟩])
 .ret)
 (.seq (.reg [[], [0], [], [2], [3], [4], [5], [6], [1, 7], [8], [9], [10, 9], [11, 9], [12, 9], [13, 9], [14, 9], [9, 15], [16, 9]]
 [⟨some 21, none, .fldA 5, [.t 3]⟩,
 ⟨some 22, none, .load none, [.t 21]⟩,
 ⟨some 23, none, .mov, [.t 0]⟩,
 ⟨some 24, none, .nilchk, [.t 23]⟩,
 ⟨some 25, none, .fldA 0, [.t 24]⟩,
 ⟨some 26, none, .fldA 4, [.t 25]⟩,
 ⟨some 27, none, .load none, [.t 26]⟩,
 ⟨some 28, none, .bin .add .scal, [.t 27, .c (.int .u32 1)]⟩,
 ⟨some 29, none, .bin .neq .scal, [.t 22, .t 28]⟩,
 ⟨some 30, none, .mov, [.t 29]⟩,
 ⟨some 31, some (30, false), .mov, [.t 0]⟩,
 ⟨some 32, some (30, false), .nilchk, [.t 31]⟩,
 ⟨some 33, some (30, false), .fldA 0, [.t 32]⟩,
 ⟨some 34, some (30, false), .fldA 2, [.t 33]⟩,
 ⟨some 35, some (30, false), .load none, [.t 34]⟩,
 ⟨some 36, some (30, false), .bin .eql .scal, [.t 35, .c (.int .i64 2)]⟩,
 ⟨some 37, none, .pick, [.t 30, .c (.bool true), .t 36]⟩,
 ⟨some 20, none, .mov, [.t 37]⟩])
 (.cond (.t 20)
 (.seq (.reg []
 [⟨some 38, none, .mov, [.t 0]⟩,
 ⟨some 39, none, .nilchk, [.t 38]⟩,
 ⟨some 40, none, .fldA 22, [.t 39]⟩,
 ⟨none, none, .store 1, [.t 40, .c (.int .i64 13)]⟩])
 .ret)
 .skip)))))
 (.seq (.reg []
 [⟨some 41, none, .mov, [.t 0]⟩,
 ⟨some 42, none, .load (some 7), [.t 3]⟩,
 ⟨some 43, none, .call 64, [.t 41, .t 42]⟩])
 (.seq (.reg []
 [⟨some 44, none, .mov, [.t 0]⟩,
 ⟨some 45, none, .fldA 5, [.t 3]⟩,
 ⟨some 46, none, .load none, [.t 45]⟩,
 ⟨some 47, none, .nilchk, [.t 44]⟩,
 ⟨some 48, none, .fldA 0, [.t 47]⟩,
 ⟨some 49, none, .fldA 4, [.t 48]⟩,
 ⟨none, none, .store 1, [.t 49, .t 46]⟩])
 (.seq (.reg []
 [⟨some 50, none, .mov, [.t 0]⟩,
 ⟨some 51, none, .call 63, [.t 50]⟩])
 (.seq (.reg []
 [⟨some 52, none, .fldA 3, [.t 3]⟩,
 ⟨some 53, none, .load none, [.t 52]⟩,
 ⟨some 54, none, .unNot, [.t 53]⟩,
 ⟨some 55, none, .mov, [.t 54]⟩,
 ⟨some 56, some (55, true), .mov, [.t 0]⟩,
 ⟨some 57, some (55, true), .nilchk, [.t 56]⟩,
 ⟨some 58, some (55, true), .fldA 14, [.t 57]⟩,
 ⟨some 59, some (55, true), .fldA 3, [.t 58]⟩,
 ⟨some 60, some (55, true), .load none, [.t 59]⟩,
 ⟨some 61, some (55, true), .unNot, [.t 60]⟩,
 ⟨some 62, none, .pick, [.t 55, .t 61, .c (.bool false)]⟩])
 (.cond (.t 62)
 (.reg []
 [⟨some 63, none, .mov, [.t 0]⟩,
 ⟨some 64, none, .nilchk, [.t 63]⟩,
 ⟨some 65, none, .fldA 0, [.t 64]⟩,
 ⟨some 66, none, .fldA 2, [.t 65]⟩,
 ⟨none, none, .store 1, [.t 66, .c (.int .i64 2)]⟩])
 .skip))))))
theorem i47 : fnInfo Try.prog 47 = some (67, [], ac47) := by kernel_rfl
/-- "(*crossroads/exch.talk).page": 53 temporaries, 1 parameters, results some []. -/
def ac63 : AC :=
 .seq (.reg []
 [⟨some 4, none, .mov, [.t 0]⟩,
 ⟨some 5, none, .nilchk, [.t 4]⟩,
 ⟨some 6, none, .fldA 0, [.t 5]⟩,
 ⟨some 7, none, .fldA 5, [.t 6]⟩,
 ⟨some 8, none, .load none, [.t 7]⟩,
 ⟨some 9, none, .lenL, [.t 8]⟩,
 ⟨some 10, none, .minmax false, [.c (.int .i64 10), .t 9]⟩,
 ⟨some 2, none, .mov, [.t 10]⟩])
 (.seq (.reg [[], [], [1], [2], [3], [4], [5], [0, 6], [], [8], [9], [10], [11], [], [13], [14], [15], [16], [], [18], [19], [20], [21], [], [22, 23], [24], [7, 12, 17, 25], [], [27, 26, 25, 0, 1, 2, 3, 4, 5, 6, 7, 8, 9, 10, 11, 12, 13, 14, 15, 16, 17, 18, 19, 20, 21, 22, 23, 24, 25, 26, 27]]
 [⟨some 11, none, .mov, [.t 2]⟩,
 ⟨some 12, none, .mov, [.t 0]⟩,
 ⟨some 13, none, .nilchk, [.t 12]⟩,
 ⟨some 14, none, .fldA 0, [.t 13]⟩,
 ⟨some 15, none, .fldA 5, [.t 14]⟩,
 ⟨some 16, none, .load none, [.t 15]⟩,
 ⟨some 17, none, .lenL, [.t 16]⟩,
 ⟨some 18, none, .bin .lss .scal, [.t 11, .t 17]⟩,
 ⟨some 19, none, .mov, [.t 0]⟩,
 ⟨some 20, none, .nilchk, [.t 19]⟩,
 ⟨some 21, none, .fldA 0, [.t 20]⟩,
 ⟨some 22, none, .fldA 3, [.t 21]⟩,
 ⟨some 23, none, .load none, [.t 22]⟩,
 ⟨some 24, none, .mov, [.t 0]⟩,
 ⟨some 25, none, .nilchk, [.t 24]⟩,
 ⟨some 26, none, .fldA 0, [.t 25]⟩,
 ⟨some 27, none, .fldA 4, [.t 26]⟩,
 ⟨some 28, none, .load none, [.t 27]⟩,
 ⟨some 29, none, .mov, [.t 0]⟩,
 ⟨some 30, none, .nilchk, [.t 29]⟩,
 ⟨some 31, none, .fldA 0, [.t 30]⟩,
 ⟨some 32, none, .fldA 5, [.t 31]⟩,
 ⟨some 33, none, .load none, [.t 32]⟩,
 ⟨some 34, none, .mov, [.t 2]⟩,
 ⟨some 35, none, .slice 8 false true, [.t 33, .t 34]⟩,
 ⟨some 36, none, .call 27, [.t 35]⟩,
 ⟨some 37, none, .build [.int .i64 0, .int .i64 0, .bool false, .bool false, .bool false, .int .u32 0, .nils] [(0, 1), (1, 1), (3, 1), (4, 1), (5, 1), (6, 1)], [.c (.int .i64 1500), .c (.int .i64 2), .t 18, .t 23, .t 28, .t 36]⟩,
 ⟨some 3, none, .alloc [.int .i64 0, .int .i64 0, .bool false, .bool false, .bool false, .int .u32 0, .nils], []⟩,
 ⟨none, none, .store 7, [.t 3, .t 37]⟩])
 (.seq (.reg []
 [⟨some 38, none, .mov, [.t 0]⟩,
 ⟨some 39, none, .mov, [.t 0]⟩,
 ⟨some 40, none, .nilchk, [.t 39]⟩,
 ⟨some 41, none, .fldA 0, [.t 40]⟩,
 ⟨some 42, none, .fldA 5, [.t 41]⟩,
 ⟨some 43, none, .load none, [.t 42]⟩,
 ⟨some 44, none, .mov, [.t 2]⟩,
 ⟨some 45, none, .slice 8 true false, [.t 43, .t 44]⟩,
 ⟨some 46, none, .call 27, [.t 45]⟩,
 ⟨some 47, none, .nilchk, [.t 38]⟩,
 ⟨some 48, none, .fldA 0, [.t 47]⟩,
 ⟨some 49, none, .fldA 5, [.t 48]⟩,
 ⟨none, none, .store 1, [.t 49, .t 46]⟩])
 (.reg []
 [⟨some 50, none, .mov, [.t 0]⟩,
 ⟨some 51, none, .load (some 7), [.t 3]⟩,
 ⟨some 52, none, .call 65, [.t 50, .t 51]⟩])))
theorem i63 : fnInfo Try.prog 63 = some (53, [], ac63) := by kernel_rfl
/-- "(*crossroads/exch.talk).take": 17 temporaries, 2 parameters, results some []. -/
def ac64 : AC :=
 .seq (.reg []
 [⟨some 3, none, .box, [.t 1]⟩])
 (.reg [[], [], [1], [2], [3], [4], [], [6], [5, 7], [8], [0, 0, 1, 2, 3, 4, 5, 6, 7, 8, 9], [10, 0, 1, 2, 3, 4, 5, 6, 7, 8, 9], [11, 0, 1, 2, 3, 4, 5, 6, 7, 8, 9], [12, 9, 9, 0, 1, 2, 3, 4, 5, 6, 7, 8, 9]]
 [⟨some 4, none, .mov, [.t 0]⟩,
 ⟨some 5, none, .mov, [.t 0]⟩,
 ⟨some 6, none, .nilchk, [.t 5]⟩,
 ⟨some 7, none, .fldA 0, [.t 6]⟩,
 ⟨some 8, none, .fldA 6, [.t 7]⟩,
 ⟨some 9, none, .load none, [.t 8]⟩,
 ⟨some 10, none, .fldA 6, [.t 3]⟩,
 ⟨some 11, none, .load none, [.t 10]⟩,
 ⟨some 12, none, .bslice 1 23, [.t 9, .t 11]⟩,
 ⟨some 13, none, .call 79, [.t 12]⟩,
 ⟨some 14, none, .nilchk, [.t 4]⟩,
 ⟨some 15, none, .fldA 0, [.t 14]⟩,
 ⟨some 16, none, .fldA 6, [.t 15]⟩,
 ⟨none, none, .store 1, [.t 16, .t 13]⟩])
theorem i64 : fnInfo Try.prog 64 = some (17, [], ac64) := by kernel_rfl
/-- "(*crossroads/exch.talk).send": 16 temporaries, 2 parameters, results some []. -/
def ac65 : AC :=
 .seq (.reg []
 [⟨some 3, none, .box, [.t 1]⟩])
 (.reg [[], [], [], [], [], [0, 0, 3], [5, 0, 3], [6, 3, 0, 3], [1, 0, 1, 3, 5, 6, 7], [8, 0, 1, 3, 5, 6, 7], [9, 7, 0, 1, 3, 5, 6, 7], [2, 0, 1, 2, 3, 4, 5, 6, 7, 8, 9, 10], [11, 0, 1, 2, 3, 4, 5, 6, 7, 8, 9, 10], [12, 0, 1, 2, 3, 4, 5, 6, 7, 8, 9, 10], [13, 4, 10, 0, 1, 2, 3, 4, 5, 6, 7, 8, 9, 10]]
 [⟨some 4, none, .mov, [.t 0]⟩,
 ⟨some 5, none, .mov, [.t 0]⟩,
 ⟨some 6, none, .mov, [.t 0]⟩,
 ⟨some 7, none, .load (some 7), [.t 3]⟩,
 ⟨some 8, none, .load (some 7), [.t 3]⟩,
 ⟨some 9, none, .nilchk, [.t 4]⟩,
 ⟨some 10, none, .fldA 14, [.t 9]⟩,
 ⟨none, none, .store 7, [.t 10, .t 7]⟩,
 ⟨some 11, none, .nilchk, [.t 5]⟩,
 ⟨some 12, none, .fldA 21, [.t 11]⟩,
 ⟨none, none, .store 1, [.t 12, .c (.bool true)]⟩,
 ⟨some 13, none, .nilchk, [.t 6]⟩,
 ⟨some 14, none, .fldA 0, [.t 13]⟩,
 ⟨some 15, none, .fldA 7, [.t 14]⟩,
 ⟨none, none, .store 7, [.t 15, .t 8]⟩])
theorem i65 : fnInfo Try.prog 65 = some (16, [], ac65) := by kernel_rfl
def ac79_1 : AC :=
 .seq (.reg []
 [⟨some 12, none, .bin .lss .scal, [.t 11, .t 10]⟩])
 (.seq (.cond (.t 12)
 .skip
 (.exit 0))
 (.seq (.block 1 (.seq (.reg []
 [⟨some 13, none, .idxA 1, [.t 9, .t 11]⟩,
 ⟨some 14, none, .load none, [.t 13]⟩,
 ⟨some 5, none, .mov, [.t 14]⟩])
 (.seq (.reg []
 [⟨some 15, none, .mov, [.t 3]⟩,
 ⟨some 16, none, .mov, [.t 5]⟩,
 ⟨some 17, none, .lenL, [.t 16]⟩,
 ⟨some 18, none, .bin .add .scal, [.t 15, .t 17]⟩,
 ⟨some 3, none, .mov, [.t 18]⟩])
 (.seq (.reg []
 [⟨some 19, none, .mov, [.t 3]⟩,
 ⟨some 20, none, .bin .lss .scal, [.t 19, .c (.int .i64 0)]⟩])
 (.cond (.t 20)
 (.reg []
 [⟨some 21, none, .mkif 9, [.c (.str (bstr [108, 101, 110, 32, 111, 117, 116, 32, 111, 102, 32, 114, 97, 110, 103, 101]))]⟩,
 ⟨none, none, .bad, []⟩])
 .skip)))))
 (.reg []
 [⟨some 22, none, .bin .add .scal, [.t 11, .c (.int .i64 1)]⟩,
 ⟨some 11, none, .mov, [.t 22]⟩])))
def ac79_2 : AC :=
 .seq (.reg []
 [⟨some 28, none, .bin .lss .scal, [.t 27, .t 26]⟩])
 (.seq (.cond (.t 28)
 .skip
 (.exit 2))
 (.seq (.block 3 (.seq (.reg []
 [⟨some 29, none, .idxA 1, [.t 25, .t 27]⟩,
 ⟨some 30, none, .load none, [.t 29]⟩,
 ⟨some 8, none, .mov, [.t 30]⟩])
 (.reg []
 [⟨some 31, none, .mov, [.t 6]⟩,
 ⟨some 32, none, .mov, [.t 8]⟩,
 ⟨some 33, none, .append 8 67 56, [.t 31, .t 32]⟩,
 ⟨some 6, none, .mov, [.t 33]⟩])))
 (.reg []
 [⟨some 34, none, .bin .add .scal, [.t 27, .c (.int .i64 1)]⟩,
 ⟨some 27, none, .mov, [.t 34]⟩])))
/-- "slices.Concat[[]crossroads/api.Header,crossroads/api.Header]": 36 temporaries, 1 parameters, results some [.t 2]. -/
def ac79 : AC :=
 .seq (.reg []
 [⟨some 2, none, .mov, [.c .nils]⟩])
 (.seq (.reg []
 [⟨some 3, none, .mov, [.c (.int .i64 0)]⟩])
 (.seq (.seq (.reg []
 [⟨some 9, none, .mov, [.t 0]⟩,
 ⟨some 10, none, .lenL, [.t 9]⟩,
 ⟨some 11, none, .mov, [.c (.int .i64 0)]⟩])
 (.block 0 (.loop ac79_1)))
 (.seq (.reg []
 [⟨some 23, none, .mov, [.t 3]⟩,
 ⟨some 24, none, .call 83, [.c .nils, .t 23]⟩,
 ⟨some 6, none, .mov, [.t 24]⟩])
 (.seq (.seq (.reg []
 [⟨some 25, none, .mov, [.t 0]⟩,
 ⟨some 26, none, .lenL, [.t 25]⟩,
 ⟨some 27, none, .mov, [.c (.int .i64 0)]⟩])
 (.block 2 (.loop ac79_2)))
 (.seq (.reg []
 [⟨some 35, none, .mov, [.t 6]⟩,
 ⟨some 2, none, .mov, [.t 35]⟩])
 .ret)))))
theorem i79 : fnInfo Try.prog 79 = some (36, [.t 2], ac79) := by kernel_rfl
/-- "slices.Grow[[]crossroads/api.Header,crossroads/api.Header]": 27 temporaries, 2 parameters, results some [.t 4]. -/
def ac83 : AC :=
 .seq (.reg []
 [⟨some 4, none, .mov, [.c .nils]⟩])
 (.seq (.seq (.reg []
 [⟨some 5, none, .mov, [.t 1]⟩,
 ⟨some 6, none, .bin .lss .scal, [.t 5, .c (.int .i64 0)]⟩])
 (.cond (.t 6)
 (.reg []
 [⟨some 7, none, .mkif 9, [.c (.str (bstr [99, 97, 110, 110, 111, 116, 32, 98, 101, 32, 110, 101, 103, 97, 116, 105, 118, 101]))]⟩,
 ⟨none, none, .bad, []⟩])
 .skip))
 (.seq (.seq (.reg []
 [⟨some 8, none, .mov, [.t 1]⟩,
 ⟨some 9, none, .mov, [.t 0]⟩,
 ⟨some 10, none, .capL, [.t 9]⟩,
 ⟨some 11, none, .mov, [.t 0]⟩,
 ⟨some 12, none, .lenL, [.t 11]⟩,
 ⟨some 13, none, .bin .sub .scal, [.t 10, .t 12]⟩,
 ⟨some 14, none, .bin .sub .scal, [.t 8, .t 13]⟩,
 ⟨some 1, none, .mov, [.t 14]⟩])
 (.seq (.reg []
 [⟨some 15, none, .mov, [.t 1]⟩,
 ⟨some 16, none, .bin .gtr .scal, [.t 15, .c (.int .i64 0)]⟩])
 (.cond (.t 16)
 (.reg []
 [⟨some 17, none, .mov, [.t 0]⟩,
 ⟨some 18, none, .mov, [.t 0]⟩,
 ⟨some 19, none, .capL, [.t 18]⟩,
 ⟨some 20, none, .slice 8 false true, [.t 17, .t 19]⟩,
 ⟨some 21, none, .mov, [.t 1]⟩,
 ⟨some 22, none, .appendZ 8 67 56 [.int .i64 0, .int .i64 0, .int .i64 0, .int .u32 0, .int .u32 0, .int .u32 0, .int .i64 0, .int .i64 0], [.t 20, .t 21]⟩,
 ⟨some 23, none, .mov, [.t 0]⟩,
 ⟨some 24, none, .lenL, [.t 23]⟩,
 ⟨some 25, none, .slice 8 false true, [.t 22, .t 24]⟩,
 ⟨some 0, none, .mov, [.t 25]⟩])
 .skip)))
 (.seq (.reg []
 [⟨some 26, none, .mov, [.t 0]⟩,
 ⟨some 4, none, .mov, [.t 26]⟩])
 .ret)))
theorem i83 : fnInfo Try.prog 83 = some (27, [.t 4], ac83) := by kernel_rfl
end Go.Proofs.Ytbmdpedhobkeeaa.Abs

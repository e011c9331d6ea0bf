/- The functions of the program as the abstract machine's code: each is what the model's code is turned into. -/
import Derived.Test.YtbmdpedhobkeeaaA20
import Derived.Test.YtbmdpedhobkeeaaP0
import Derived.Test.YtbmdpedhobkeeaaProg
import Derived.KernelRfl
namespace Go.Proofs.Ytbmdpedhobkeeaa.Abs
open Go

theorem mixed : Try.prog.follows .mixedOrders = true := by kernel_rfl

def ac7_1 : AC :=
 .seq (.seq (.reg []
 [⟨some 29, none, .mov, [.t 6]⟩,
 ⟨some 30, none, .mov, [.t 1]⟩,
 ⟨some 31, none, .lenL, [.t 30]⟩,
 ⟨some 32, none, .bin .lss .scal, [.t 29, .t 31]⟩])
 (.cond (.t 32)
 .skip
 (.exit 0)))
 (.seq (.block 1 (.seq (.reg []
 [⟨some 35, none, .mov, [.t 1]⟩,
 ⟨some 36, none, .mov, [.t 6]⟩,
 ⟨some 37, none, .idxA 8, [.t 35, .t 36]⟩,
 ⟨some 38, none, .fldA 0, [.t 37]⟩,
 ⟨some 39, none, .load none, [.t 38]⟩,
 ⟨some 40, none, .bin .lss .scal, [.t 39, .c (.int .i64 0)]⟩,
 ⟨some 41, none, .mov, [.t 40]⟩,
 ⟨some 42, some (41, false), .mov, [.t 1]⟩,
 ⟨some 43, some (41, false), .mov, [.t 6]⟩,
 ⟨some 44, some (41, false), .idxA 8, [.t 42, .t 43]⟩,
 ⟨some 45, some (41, false), .fldA 0, [.t 44]⟩,
 ⟨some 46, some (41, false), .load none, [.t 45]⟩,
 ⟨some 47, some (41, false), .bin .gtr .scal, [.t 46, .c (.int .i64 3600)]⟩,
 ⟨some 48, none, .pick, [.t 41, .c (.bool true), .t 47]⟩])
 (.cond (.t 48)
 (.seq (.reg []
 [⟨some 49, none, .call 8, []⟩,
 ⟨some 4, none, .mov, [.t 49]⟩])
 .ret)
 .skip)))
 (.reg []
 [⟨some 33, none, .mov, [.t 6]⟩,
 ⟨some 34, none, .bin .add .scal, [.t 33, .c (.int .i64 1)]⟩,
 ⟨some 6, none, .mov, [.t 34]⟩]))
/-- "crossroads/crossroadslaw17.ExchWants": 68 temporaries, 2 parameters, results some [.t 4]. -/
def ac7 : AC :=
 .seq (.reg []
 [⟨some 2, none, .box, [.t 0]⟩,
 ⟨some 4, none, .mov, [.c (.bool false)]⟩])
 (.seq (.reg []
 [⟨some 7, none, .fldA 0, [.t 2]⟩,
 ⟨some 8, none, .load none, [.t 7]⟩,
 ⟨some 9, none, .fldA 1, [.t 2]⟩,
 ⟨some 10, none, .load none, [.t 9]⟩,
 ⟨some 11, none, .fldA 2, [.t 2]⟩,
 ⟨some 12, none, .load none, [.t 11]⟩,
 ⟨some 13, none, .build [.int .i64 0, .nils, .bool false] [(0, 1), (1, 1), (2, 1)], [.t 8, .t 10, .t 12]⟩,
 ⟨some 5, none, .alloc [.int .i64 0, .nils, .bool false], []⟩,
 ⟨none, none, .store 3, [.t 5, .t 13]⟩])
 (.seq (.seq (.reg []
 [⟨some 14, none, .fldA 1, [.t 2]⟩,
 ⟨some 15, none, .load none, [.t 14]⟩,
 ⟨some 16, none, .lenL, [.t 15]⟩,
 ⟨some 17, none, .bin .gtr .scal, [.t 16, .c (.int .i64 100)]⟩,
 ⟨some 18, none, .mov, [.t 17]⟩,
 ⟨some 19, some (18, false), .mov, [.t 1]⟩,
 ⟨some 20, some (18, false), .lenL, [.t 19]⟩,
 ⟨some 21, some (18, false), .bin .gtr .scal, [.t 20, .c (.int .i64 120)]⟩,
 ⟨some 22, none, .pick, [.t 18, .c (.bool true), .t 21]⟩,
 ⟨some 23, none, .mov, [.t 22]⟩,
 ⟨some 24, some (23, false), .load (some 3), [.t 5]⟩,
 ⟨some 25, some (23, false), .call 22, [.t 24]⟩,
 ⟨some 26, some (23, false), .unNot, [.t 25]⟩,
 ⟨some 27, none, .pick, [.t 23, .c (.bool true), .t 26]⟩])
 (.cond (.t 27)
 (.seq (.reg []
 [⟨some 28, none, .call 8, []⟩,
 ⟨some 4, none, .mov, [.t 28]⟩])
 .ret)
 .skip))
 (.seq (.seq (.reg []
 [⟨some 6, none, .mov, [.c (.int .i64 0)]⟩])
 (.block 0 (.loop ac7_1)))
 (.seq (.reg [[], [0, 0], [1], [1], [2, 3, 1, 1], [1], [1], [5, 6, 4, 1], [4, 7, 7, 1], [1, 8], [9, 8], [10], [10], [12, 10, 10], [11, 13, 13, 10], [14, 10], [15, 10], [10, 16], [17, 14, 0, 1, 2, 3, 4, 5, 6, 7, 8, 9, 10, 11, 12, 13, 14, 15, 16, 17]]
 [⟨some 50, none, .call 8, []⟩,
 ⟨some 51, none, .mov, [.t 50]⟩,
 ⟨some 52, some (51, true), .load (some 3), [.t 2]⟩,
 ⟨some 53, some (51, true), .mov, [.t 1]⟩,
 ⟨some 54, some (51, true), .call 24, [.t 52, .t 53]⟩,
 ⟨some 55, some (51, true), .load (some 3), [.t 5]⟩,
 ⟨some 56, some (51, true), .mov, [.t 1]⟩,
 ⟨some 57, some (51, true), .call 25, [.t 55, .t 56]⟩,
 ⟨some 58, some (51, true), .call 23, [.t 54, .t 57]⟩,
 ⟨some 59, none, .pick, [.t 51, .t 58, .c (.bool false)]⟩,
 ⟨some 60, none, .mov, [.t 59]⟩,
 ⟨some 61, some (60, true), .load (some 3), [.t 2]⟩,
 ⟨some 62, some (60, true), .load (some 3), [.t 2]⟩,
 ⟨some 63, some (60, true), .call 26, [.t 62]⟩,
 ⟨some 64, some (60, true), .call 24, [.t 61, .t 63]⟩,
 ⟨some 65, some (60, true), .lenL, [.t 64]⟩,
 ⟨some 66, some (60, true), .bin .eql .scal, [.t 65, .c (.int .i64 0)]⟩,
 ⟨some 67, none, .pick, [.t 60, .t 66, .c (.bool false)]⟩,
 ⟨some 4, none, .mov, [.t 67]⟩])
 .ret))))
theorem i7 : fnInfo Try.prog 7 = some (68, [.t 4], ac7) := by kernel_rfl
/-- "crossroads/crossroadslaw17.alive": 75 temporaries, 0 parameters, results some [.t 0]. -/
def ac8 : AC :=
 .seq (.reg []
 [⟨some 0, none, .mov, [.c (.bool false)]⟩])
 (.seq (.reg []
 [⟨some 16, none, .call 9, [.c (.int .u32 1), .c (.int .u32 2), .c (.int .u32 5), .c .nils]⟩,
 ⟨some 15, none, .mov, [.t 16]⟩,
 ⟨some 17, none, .ext 0, [.t 15]⟩,
 ⟨some 18, none, .ext 1, [.t 15]⟩,
 ⟨some 1, none, .alloc [.int .u32 0, .int .u32 0, .int .i64 0, .bool false, .int .u32 0, .nils, .nils, .int .i64 0, .int .i64 0, .bool false, .bool false, .bool false, .int .u32 0, .nils], []⟩,
 ⟨some 2, none, .alloc [.int .i64 0, .int .i64 0, .bool false, .bool false, .bool false, .int .u32 0, .nils], []⟩,
 ⟨none, none, .store 14, [.t 1, .t 17]⟩,
 ⟨none, none, .store 7, [.t 2, .t 18]⟩])
 (.seq (.reg []
 [⟨some 20, none, .call 9, [.c (.int .u32 2), .c (.int .u32 1), .c (.int .u32 7), .c .nils]⟩,
 ⟨some 19, none, .mov, [.t 20]⟩,
 ⟨some 21, none, .ext 0, [.t 19]⟩,
 ⟨some 22, none, .ext 1, [.t 19]⟩,
 ⟨some 3, none, .alloc [.int .u32 0, .int .u32 0, .int .i64 0, .bool false, .int .u32 0, .nils, .nils, .int .i64 0, .int .i64 0, .bool false, .bool false, .bool false, .int .u32 0, .nils], []⟩,
 ⟨some 4, none, .alloc [.int .i64 0, .int .i64 0, .bool false, .bool false, .bool false, .int .u32 0, .nils], []⟩,
 ⟨none, none, .store 14, [.t 3, .t 21]⟩,
 ⟨none, none, .store 7, [.t 4, .t 22]⟩])
 (.seq (.reg []
 [⟨some 24, none, .load (some 14), [.t 1]⟩,
 ⟨some 25, none, .load (some 7), [.t 4]⟩,
 ⟨some 26, none, .call 15, [.t 24, .t 25]⟩,
 ⟨some 23, none, .mov, [.t 26]⟩,
 ⟨some 27, none, .ext 0, [.t 23]⟩,
 ⟨some 28, none, .ext 1, [.t 23]⟩,
 ⟨some 29, none, .ext 2, [.t 23]⟩,
 ⟨some 30, none, .ext 3, [.t 23]⟩,
 ⟨some 5, none, .alloc [.int .i64 0, .int .i64 0, .bool false, .bool false, .bool false, .int .u32 0, .nils], []⟩,
 ⟨none, none, .store 14, [.t 1, .t 27]⟩,
 ⟨none, none, .store 7, [.t 5, .t 28]⟩,
 ⟨some 6, none, .mov, [.t 29]⟩,
 ⟨some 7, none, .mov, [.t 30]⟩])
 (.seq (.reg []
 [⟨some 32, none, .load (some 14), [.t 3]⟩,
 ⟨some 33, none, .load (some 7), [.t 2]⟩,
 ⟨some 34, none, .call 15, [.t 32, .t 33]⟩,
 ⟨some 31, none, .mov, [.t 34]⟩,
 ⟨some 35, none, .ext 0, [.t 31]⟩,
 ⟨some 36, none, .ext 1, [.t 31]⟩,
 ⟨some 37, none, .ext 2, [.t 31]⟩,
 ⟨some 38, none, .ext 3, [.t 31]⟩,
 ⟨some 8, none, .alloc [.int .u32 0, .int .u32 0, .int .i64 0, .bool false, .int .u32 0, .nils, .nils, .int .i64 0, .int .i64 0, .bool false, .bool false, .bool false, .int .u32 0, .nils], []⟩,
 ⟨some 9, none, .alloc [.int .i64 0, .int .i64 0, .bool false, .bool false, .bool false, .int .u32 0, .nils], []⟩,
 ⟨none, none, .store 14, [.t 8, .t 35]⟩,
 ⟨none, none, .store 7, [.t 9, .t 36]⟩,
 ⟨some 10, none, .mov, [.t 37]⟩,
 ⟨some 11, none, .mov, [.t 38]⟩])
 (.seq (.reg []
 [⟨some 40, none, .load (some 14), [.t 3]⟩,
 ⟨some 41, none, .load (some 7), [.t 5]⟩,
 ⟨some 42, none, .call 15, [.t 40, .t 41]⟩,
 ⟨some 39, none, .mov, [.t 42]⟩,
 ⟨some 43, none, .ext 0, [.t 39]⟩,
 ⟨some 44, none, .ext 1, [.t 39]⟩,
 ⟨some 45, none, .ext 2, [.t 39]⟩,
 ⟨some 46, none, .ext 3, [.t 39]⟩,
 ⟨some 12, none, .alloc [.int .i64 0, .int .i64 0, .bool false, .bool false, .bool false, .int .u32 0, .nils], []⟩,
 ⟨none, none, .store 14, [.t 3, .t 43]⟩,
 ⟨none, none, .store 7, [.t 12, .t 44]⟩,
 ⟨some 13, none, .mov, [.t 45]⟩,
 ⟨some 14, none, .mov, [.t 46]⟩])
 (.seq (.reg []
 [⟨some 47, none, .mov, [.t 6]⟩,
 ⟨some 48, none, .mov, [.t 47]⟩,
 ⟨some 49, some (48, true), .mov, [.t 10]⟩,
 ⟨some 50, some (48, true), .unNot, [.t 49]⟩,
 ⟨some 51, none, .pick, [.t 48, .t 50, .c (.bool false)]⟩,
 ⟨some 52, none, .mov, [.t 51]⟩,
 ⟨some 53, some (52, true), .mov, [.t 14]⟩,
 ⟨some 54, some (52, true), .bin .eql .scal, [.t 53, .c (.int .i64 0)]⟩,
 ⟨some 55, none, .pick, [.t 52, .t 54, .c (.bool false)]⟩,
 ⟨some 56, none, .mov, [.t 55]⟩,
 ⟨some 57, some (56, true), .fldA 2, [.t 1]⟩,
 ⟨some 58, some (56, true), .load none, [.t 57]⟩,
 ⟨some 59, some (56, true), .bin .eql .scal, [.t 58, .c (.int .i64 1)]⟩,
 ⟨some 60, none, .pick, [.t 56, .t 59, .c (.bool false)]⟩,
 ⟨some 61, none, .mov, [.t 60]⟩,
 ⟨some 62, some (61, true), .fldA 2, [.t 3]⟩,
 ⟨some 63, some (61, true), .load none, [.t 62]⟩,
 ⟨some 64, some (61, true), .bin .eql .scal, [.t 63, .c (.int .i64 1)]⟩,
 ⟨some 65, none, .pick, [.t 61, .t 64, .c (.bool false)]⟩,
 ⟨some 66, none, .mov, [.t 65]⟩,
 ⟨some 67, some (66, true), .fldA 3, [.t 3]⟩,
 ⟨some 68, some (66, true), .load none, [.t 67]⟩,
 ⟨some 69, none, .pick, [.t 66, .t 68, .c (.bool false)]⟩,
 ⟨some 70, none, .mov, [.t 69]⟩,
 ⟨some 71, some (70, true), .fldA 5, [.t 5]⟩,
 ⟨some 72, some (70, true), .load none, [.t 71]⟩,
 ⟨some 73, some (70, true), .bin .eql .scal, [.t 72, .c (.int .u32 7)]⟩,
 ⟨some 74, none, .pick, [.t 70, .t 73, .c (.bool false)]⟩,
 ⟨some 0, none, .mov, [.t 74]⟩])
 .ret))))))
theorem i8 : fnInfo Try.prog 8 = some (75, [.t 0], ac8) := by kernel_rfl
/-- "crossroads/exch.Open": 21 temporaries, 4 parameters, results some [.c 8 (some 14), .c 9 (some 7)]. -/
def ac9 : AC :=
 .seq (.reg []
 [⟨some 8, none, .alloc [.int .u32 0, .int .u32 0, .int .i64 0, .bool false, .int .u32 0, .nils, .nils, .int .i64 0, .int .i64 0, .bool false, .bool false, .bool false, .int .u32 0, .nils], []⟩,
 ⟨some 9, none, .alloc [.int .i64 0, .int .i64 0, .bool false, .bool false, .bool false, .int .u32 0, .nils], []⟩])
 (.seq (.reg []
 [⟨some 11, none, .mov, [.t 2]⟩,
 ⟨some 12, none, .build [.int .i64 0, .int .i64 0, .bool false, .bool false, .bool false, .int .u32 0, .nils] [(0, 1), (1, 1), (2, 1), (3, 1), (4, 1), (5, 1)], [.c (.int .i64 1500), .c (.int .i64 2), .c (.bool true), .c (.bool true), .c (.bool true), .t 11]⟩,
 ⟨some 10, none, .alloc [.int .i64 0, .int .i64 0, .bool false, .bool false, .bool false, .int .u32 0, .nils], []⟩,
 ⟨none, none, .store 7, [.t 10, .t 12]⟩])
 (.seq (.reg [[], [], [], [], [3], [], [0, 1, 2, 4, 5], [], [6, 4, 0, 1, 2, 3, 4, 5, 6], [7, 8, 0, 1, 2, 3, 4, 5, 6, 7, 8]]
 [⟨some 13, none, .mov, [.t 0]⟩,
 ⟨some 14, none, .mov, [.t 1]⟩,
 ⟨some 15, none, .mov, [.t 2]⟩,
 ⟨some 16, none, .mov, [.t 3]⟩,
 ⟨some 17, none, .call 27, [.t 16]⟩,
 ⟨some 18, none, .load (some 7), [.t 10]⟩,
 ⟨some 19, none, .build [.int .u32 0, .int .u32 0, .int .i64 0, .bool false, .int .u32 0, .nils, .nils, .int .i64 0, .int .i64 0, .bool false, .bool false, .bool false, .int .u32 0, .nils] [(0, 1), (1, 1), (4, 1), (5, 1), (7, 7)], [.t 13, .t 14, .t 15, .t 17, .t 18]⟩,
 ⟨some 20, none, .load (some 7), [.t 10]⟩,
 ⟨none, none, .store 14, [.t 8, .t 19]⟩,
 ⟨none, none, .store 7, [.t 9, .t 20]⟩])
 .ret))
theorem i9 : fnInfo Try.prog 9 = some (21, [.c 8 (some 14), .c 9 (some 7)], ac9) := by kernel_rfl
/-- "crossroads/exch.Hear": 40 temporaries, 2 parameters, results some [.c 4 (some 14), .c 5 (some 7), .t 6, .t 7]. -/
def ac15 : AC :=
 .seq (.reg []
 [⟨some 2, none, .box, [.t 0]⟩,
 ⟨some 3, none, .box, [.t 1]⟩,
 ⟨some 4, none, .alloc [.int .u32 0, .int .u32 0, .int .i64 0, .bool false, .int .u32 0, .nils, .nils, .int .i64 0, .int .i64 0, .bool false, .bool false, .bool false, .int .u32 0, .nils], []⟩,
 ⟨some 5, none, .alloc [.int .i64 0, .int .i64 0, .bool false, .bool false, .bool false, .int .u32 0, .nils], []⟩,
 ⟨some 6, none, .mov, [.c (.bool false)]⟩,
 ⟨some 7, none, .mov, [.c (.int .i64 0)]⟩])
 (.seq (.reg []
 [⟨some 9, none, .load (some 14), [.t 2]⟩,
 ⟨some 10, none, .build [.int .u32 0, .int .u32 0, .int .i64 0, .bool false, .int .u32 0, .nils, .nils, .int .i64 0, .int .i64 0, .bool false, .bool false, .bool false, .int .u32 0, .nils, .int .i64 0, .int .i64 0, .bool false, .bool false, .bool false, .int .u32 0, .nils, .bool false, .int .i64 0] [(0, 14)], [.t 9]⟩,
 ⟨some 11, none, .box, [.t 10]⟩,
 ⟨some 8, none, .mov, [.t 11]⟩])
 (.seq (.reg [[], [], [0, 1], [], [2, 3, 2]]
 [⟨some 12, none, .mov, [.t 8]⟩,
 ⟨some 13, none, .load (some 7), [.t 3]⟩,
 ⟨some 14, none, .call 28, [.t 12, .t 13]⟩,
 ⟨some 15, none, .load (some 7), [.t 3]⟩,
 ⟨some 16, none, .callv, [.t 14, .t 15]⟩])
 (.seq (.seq (.reg []
 [⟨some 17, none, .mov, [.t 8]⟩,
 ⟨some 18, none, .nilchk, [.t 17]⟩,
 ⟨some 19, none, .fldA 22, [.t 18]⟩,
 ⟨some 20, none, .load none, [.t 19]⟩,
 ⟨some 21, none, .bin .neq .scal, [.t 20, .c (.int .i64 0)]⟩])
 (.cond (.t 21)
 (.seq (.reg [[], [], [], [2], [3], [4], [0, 0], [1, 6, 0, 1, 6], [7, 0, 1, 6, 7], [5, 8, 0, 1, 2, 3, 4, 5, 6, 7, 8]]
 [⟨some 22, none, .load (some 14), [.t 2]⟩,
 ⟨some 23, none, .build [.int .i64 0, .int .i64 0, .bool false, .bool false, .bool false, .int .u32 0, .nils] [], []⟩,
 ⟨some 24, none, .mov, [.t 8]⟩,
 ⟨some 25, none, .nilchk, [.t 24]⟩,
 ⟨some 26, none, .fldA 22, [.t 25]⟩,
 ⟨some 27, none, .load none, [.t 26]⟩,
 ⟨none, none, .store 14, [.t 4, .t 22]⟩,
 ⟨none, none, .store 7, [.t 5, .t 23]⟩,
 ⟨some 6, none, .mov, [.c (.bool false)]⟩,
 ⟨some 7, none, .mov, [.t 27]⟩])
 .ret)
 .skip))
 (.seq (.reg [[], [0], [1], [2], [], [4], [5], [6], [], [8], [9], [10], [3, 0, 1, 2, 3], [7, 12, 0, 1, 2, 3, 4, 5, 6, 7, 12], [11, 13, 0, 1, 2, 3, 4, 5, 6, 7, 8, 9, 10, 11, 12, 13], [14, 0, 1, 2, 3, 4, 5, 6, 7, 8, 9, 10, 11, 12, 13, 14]]
 [⟨some 28, none, .mov, [.t 8]⟩,
 ⟨some 29, none, .nilchk, [.t 28]⟩,
 ⟨some 30, none, .fldA 0, [.t 29]⟩,
 ⟨some 31, none, .load (some 14), [.t 30]⟩,
 ⟨some 32, none, .mov, [.t 8]⟩,
 ⟨some 33, none, .nilchk, [.t 32]⟩,
 ⟨some 34, none, .fldA 14, [.t 33]⟩,
 ⟨some 35, none, .load (some 7), [.t 34]⟩,
 ⟨some 36, none, .mov, [.t 8]⟩,
 ⟨some 37, none, .nilchk, [.t 36]⟩,
 ⟨some 38, none, .fldA 21, [.t 37]⟩,
 ⟨some 39, none, .load none, [.t 38]⟩,
 ⟨none, none, .store 14, [.t 4, .t 31]⟩,
 ⟨none, none, .store 7, [.t 5, .t 35]⟩,
 ⟨some 6, none, .mov, [.t 39]⟩,
 ⟨some 7, none, .mov, [.c (.int .i64 0)]⟩])
 .ret))))
theorem i15 : fnInfo Try.prog 15 = some (40, [.c 4 (some 14), .c 5 (some 7), .t 6, .t 7], ac15) := by kernel_rfl
def ac22_1 : AC :=
 .seq (.seq (.reg []
 [⟨some 20, none, .mov, [.t 3]⟩,
 ⟨some 21, none, .fldA 1, [.t 1]⟩,
 ⟨some 22, none, .load none, [.t 21]⟩,
 ⟨some 23, none, .lenL, [.t 22]⟩,
 ⟨some 24, none, .bin .lss .scal, [.t 20, .t 23]⟩])
 (.cond (.t 24)
 .skip
 (.exit 0)))
 (.seq (.block 1 (.seq (.seq (.reg []
 [⟨some 27, none, .fldA 1, [.t 1]⟩,
 ⟨some 28, none, .load none, [.t 27]⟩,
 ⟨some 29, none, .mov, [.t 3]⟩,
 ⟨some 30, none, .idxA 9, [.t 28, .t 29]⟩,
 ⟨some 31, none, .load (some 9), [.t 30]⟩,
 ⟨some 32, none, .call 35, [.t 31]⟩,
 ⟨some 33, none, .unNot, [.t 32]⟩,
 ⟨some 34, none, .mov, [.t 33]⟩,
 ⟨some 35, some (34, false), .fldA 1, [.t 1]⟩,
 ⟨some 36, some (34, false), .load none, [.t 35]⟩,
 ⟨some 37, some (34, false), .mov, [.t 3]⟩,
 ⟨some 38, some (34, false), .idxA 9, [.t 36, .t 37]⟩,
 ⟨some 39, some (34, false), .load (some 9), [.t 38]⟩,
 ⟨some 40, some (34, false), .call 36, [.t 39]⟩,
 ⟨some 41, some (34, false), .unNot, [.t 40]⟩,
 ⟨some 42, none, .pick, [.t 34, .c (.bool true), .t 41]⟩])
 (.cond (.t 42)
 (.seq (.reg []
 [⟨some 2, none, .mov, [.c (.bool false)]⟩])
 .ret)
 .skip))
 (.seq (.reg [[], [0], [1], [2], [3, 2], [2], [5, 2], [4, 6, 2], [7, 2], [8, 2], [9, 2, 2], [2], [11, 2], [2], [12, 13, 2], [14, 2], [15, 2], [16, 10, 2], [10, 17, 17, 2], [18, 2], [2, 19]]
 [⟨some 43, none, .mov, [.t 3]⟩,
 ⟨some 44, none, .bin .gtr .scal, [.t 43, .c (.int .i64 0)]⟩,
 ⟨some 45, none, .mov, [.t 44]⟩,
 ⟨some 46, some (45, true), .fldA 1, [.t 1]⟩,
 ⟨some 47, some (45, true), .load none, [.t 46]⟩,
 ⟨some 48, some (45, true), .mov, [.t 3]⟩,
 ⟨some 49, some (45, true), .bin .sub .scal, [.t 48, .c (.int .i64 1)]⟩,
 ⟨some 50, some (45, true), .idxA 9, [.t 47, .t 49]⟩,
 ⟨some 51, some (45, true), .fldA 0, [.t 50]⟩,
 ⟨some 52, some (45, true), .load (some 8), [.t 51]⟩,
 ⟨some 53, some (45, true), .call 38, [.t 52]⟩,
 ⟨some 54, some (45, true), .fldA 1, [.t 1]⟩,
 ⟨some 55, some (45, true), .load none, [.t 54]⟩,
 ⟨some 56, some (45, true), .mov, [.t 3]⟩,
 ⟨some 57, some (45, true), .idxA 9, [.t 55, .t 56]⟩,
 ⟨some 58, some (45, true), .fldA 0, [.t 57]⟩,
 ⟨some 59, some (45, true), .load (some 8), [.t 58]⟩,
 ⟨some 60, some (45, true), .call 38, [.t 59]⟩,
 ⟨some 61, some (45, true), .call 37, [.t 53, .t 60]⟩,
 ⟨some 62, some (45, true), .unNot, [.t 61]⟩,
 ⟨some 63, none, .pick, [.t 45, .t 62, .c (.bool false)]⟩])
 (.cond (.t 63)
 (.seq (.reg []
 [⟨some 2, none, .mov, [.c (.bool false)]⟩])
 .ret)
 .skip))))
 (.reg []
 [⟨some 25, none, .mov, [.t 3]⟩,
 ⟨some 26, none, .bin .add .scal, [.t 25, .c (.int .i64 1)]⟩,
 ⟨some 3, none, .mov, [.t 26]⟩]))
/-- "crossroads/crossroadsref14.May": 64 temporaries, 1 parameters, results some [.t 2]. -/
def ac22 : AC :=
 .seq (.reg []
 [⟨some 1, none, .box, [.t 0]⟩,
 ⟨some 2, none, .mov, [.c (.bool false)]⟩])
 (.seq (.seq (.reg []
 [⟨some 4, none, .fldA 0, [.t 1]⟩,
 ⟨some 5, none, .load none, [.t 4]⟩,
 ⟨some 6, none, .bin .lss .scal, [.t 5, .c (.int .i64 1)]⟩,
 ⟨some 7, none, .mov, [.t 6]⟩,
 ⟨some 8, some (7, false), .fldA 0, [.t 1]⟩,
 ⟨some 9, some (7, false), .load none, [.t 8]⟩,
 ⟨some 10, some (7, false), .bin .gtr .scal, [.t 9, .c (.int .i64 2000)]⟩,
 ⟨some 11, none, .pick, [.t 7, .c (.bool true), .t 10]⟩,
 ⟨some 12, none, .mov, [.t 11]⟩,
 ⟨some 13, some (12, false), .fldA 1, [.t 1]⟩,
 ⟨some 14, some (12, false), .load none, [.t 13]⟩,
 ⟨some 15, some (12, false), .lenL, [.t 14]⟩,
 ⟨some 16, some (12, false), .fldA 0, [.t 1]⟩,
 ⟨some 17, some (12, false), .load none, [.t 16]⟩,
 ⟨some 18, some (12, false), .bin .gtr .scal, [.t 15, .t 17]⟩,
 ⟨some 19, none, .pick, [.t 12, .c (.bool true), .t 18]⟩])
 (.cond (.t 19)
 (.seq (.reg []
 [⟨some 2, none, .mov, [.c (.bool false)]⟩])
 .ret)
 .skip))
 (.seq (.seq (.reg []
 [⟨some 3, none, .mov, [.c (.int .i64 0)]⟩])
 (.block 0 (.loop ac22_1)))
 (.seq (.reg []
 [⟨some 2, none, .mov, [.c (.bool true)]⟩])
 .ret)))
theorem i22 : fnInfo Try.prog 22 = some (64, [.t 2], ac22) := by kernel_rfl
def ac23_1 : AC :=
 .seq (.seq (.reg []
 [⟨some 11, none, .mov, [.t 5]⟩,
 ⟨some 12, none, .mov, [.t 0]⟩,
 ⟨some 13, none, .lenL, [.t 12]⟩,
 ⟨some 14, none, .bin .lss .scal, [.t 11, .t 13]⟩])
 (.cond (.t 14)
 .skip
 (.exit 0)))
 (.seq (.block 1 (.seq (.reg [[], [], [0, 1], [2], [], [], [4, 5], [6], [3, 7]]
 [⟨some 17, none, .mov, [.t 0]⟩,
 ⟨some 18, none, .mov, [.t 5]⟩,
 ⟨some 19, none, .idxA 3, [.t 17, .t 18]⟩,
 ⟨some 20, none, .load (some 3), [.t 19]⟩,
 ⟨some 21, none, .mov, [.t 1]⟩,
 ⟨some 22, none, .mov, [.t 5]⟩,
 ⟨some 23, none, .idxA 3, [.t 21, .t 22]⟩,
 ⟨some 24, none, .load (some 3), [.t 23]⟩,
 ⟨some 25, none, .bin .neq (.flat [.int .i64, .int .u32, .int .u32]), [.t 20, .t 24]⟩])
 (.cond (.t 25)
 (.seq (.reg []
 [⟨some 4, none, .mov, [.c (.bool false)]⟩])
 .ret)
 .skip)))
 (.reg []
 [⟨some 15, none, .mov, [.t 5]⟩,
 ⟨some 16, none, .bin .add .scal, [.t 15, .c (.int .i64 1)]⟩,
 ⟨some 5, none, .mov, [.t 16]⟩]))
/-- "crossroads/crossroadsref13.Keys": 26 temporaries, 2 parameters, results some [.t 4]. -/
def ac23 : AC :=
 .seq (.reg []
 [⟨some 4, none, .mov, [.c (.bool false)]⟩])
 (.seq (.seq (.reg []
 [⟨some 6, none, .mov, [.t 0]⟩,
 ⟨some 7, none, .lenL, [.t 6]⟩,
 ⟨some 8, none, .mov, [.t 1]⟩,
 ⟨some 9, none, .lenL, [.t 8]⟩,
 ⟨some 10, none, .bin .neq .scal, [.t 7, .t 9]⟩])
 (.cond (.t 10)
 (.seq (.reg []
 [⟨some 4, none, .mov, [.c (.bool false)]⟩])
 .ret)
 .skip))
 (.seq (.seq (.reg []
 [⟨some 5, none, .mov, [.c (.int .i64 0)]⟩])
 (.block 0 (.loop ac23_1)))
 (.seq (.reg []
 [⟨some 4, none, .mov, [.c (.bool true)]⟩])
 .ret)))
theorem i23 : fnInfo Try.prog 23 = some (26, [.t 4], ac23) := by kernel_rfl
def ac24_1 : AC :=
 .seq (.reg []
 [⟨some 13, none, .bin .lss .scal, [.t 12, .t 11]⟩])
 (.seq (.cond (.t 13)
 .skip
 (.exit 0))
 (.seq (.block 1 (.seq (.reg []
 [⟨some 14, none, .idxA 8, [.t 10, .t 12]⟩,
 ⟨some 15, none, .load (some 8), [.t 14]⟩,
 ⟨some 7, none, .alloc [.int .i64 0, .int .i64 0, .int .i64 0, .int .u32 0, .int .u32 0, .int .u32 0, .int .i64 0, .int .i64 0], []⟩,
 ⟨none, none, .store 8, [.t 7, .t 15]⟩])
 (.seq (.reg [[], [], [1], [0, 2, 2], [3], [4], [4], [], [7, 5, 3, 0, 1, 2, 3, 4, 5, 7], [6, 8, 0, 1, 2, 3, 4, 5, 6, 7, 8]]
 [⟨some 17, none, .load (some 3), [.t 2]⟩,
 ⟨some 18, none, .load (some 8), [.t 7]⟩,
 ⟨some 19, none, .call 40, [.t 18]⟩,
 ⟨some 20, none, .call 39, [.t 17, .t 19]⟩,
 ⟨some 16, none, .mov, [.t 20]⟩,
 ⟨some 21, none, .ext 0, [.t 16]⟩,
 ⟨some 22, none, .ext 1, [.t 16]⟩,
 ⟨some 8, none, .alloc [.int .i64 0, .int .i64 0, .int .i64 0, .int .u32 0, .int .u32 0, .int .u32 0, .int .i64 0, .int .i64 0, .nils], []⟩,
 ⟨none, none, .store 9, [.t 8, .t 21]⟩,
 ⟨some 9, none, .mov, [.t 22]⟩])
 (.seq (.reg []
 [⟨some 23, none, .mov, [.t 9]⟩,
 ⟨some 24, none, .unNot, [.t 23]⟩,
 ⟨some 25, none, .mov, [.t 24]⟩,
 ⟨some 26, some (25, false), .load (some 8), [.t 7]⟩,
 ⟨some 27, some (25, false), .fldA 0, [.t 8]⟩,
 ⟨some 28, some (25, false), .load (some 8), [.t 27]⟩,
 ⟨some 29, some (25, false), .call 41, [.t 26, .t 28]⟩,
 ⟨some 30, some (25, false), .bin .gtr .scal, [.t 29, .c (.int .i64 0)]⟩,
 ⟨some 31, none, .pick, [.t 25, .c (.bool true), .t 30]⟩])
 (.cond (.t 31)
 (.reg []
 [⟨some 32, none, .mov, [.t 5]⟩,
 ⟨some 33, none, .load (some 8), [.t 7]⟩,
 ⟨some 34, none, .call 40, [.t 33]⟩,
 ⟨some 35, none, .bslice 3 94, [.t 34]⟩,
 ⟨some 36, none, .append 3 94 16, [.t 32, .t 35]⟩,
 ⟨some 5, none, .mov, [.t 36]⟩])
 .skip)))))
 (.reg []
 [⟨some 37, none, .bin .add .scal, [.t 12, .c (.int .i64 1)]⟩,
 ⟨some 12, none, .mov, [.t 37]⟩])))
/-- "crossroads/exch.Wants": 39 temporaries, 2 parameters, results some [.t 4]. -/
def ac24 : AC :=
 .seq (.reg []
 [⟨some 2, none, .box, [.t 0]⟩,
 ⟨some 4, none, .mov, [.c .nils]⟩])
 (.seq (.reg []
 [⟨some 5, none, .mov, [.c .nils]⟩])
 (.seq (.seq (.reg []
 [⟨some 10, none, .mov, [.t 1]⟩,
 ⟨some 11, none, .lenL, [.t 10]⟩,
 ⟨some 12, none, .mov, [.c (.int .i64 0)]⟩])
 (.block 0 (.loop ac24_1)))
 (.seq (.reg []
 [⟨some 38, none, .mov, [.t 5]⟩,
 ⟨some 4, none, .mov, [.t 38]⟩])
 .ret)))
theorem i24 : fnInfo Try.prog 24 = some (39, [.t 4], ac24) := by kernel_rfl
def ac25_1 : AC :=
 .seq (.seq (.reg []
 [⟨some 10, none, .mov, [.t 6]⟩,
 ⟨some 11, none, .mov, [.t 1]⟩,
 ⟨some 12, none, .lenL, [.t 11]⟩,
 ⟨some 13, none, .bin .lss .scal, [.t 10, .t 12]⟩])
 (.cond (.t 13)
 .skip
 (.exit 0)))
 (.seq (.block 1 (.seq (.reg [[], [], [], [1, 2], [3], [4], [0, 5, 5], [6], [7], [7], [], [10, 8, 6, 0, 1, 2, 3, 4, 5, 6, 7, 8, 10], [9, 11, 0, 1, 2, 3, 4, 5, 6, 7, 8, 9, 10, 11]]
 [⟨some 17, none, .load (some 3), [.t 2]⟩,
 ⟨some 18, none, .mov, [.t 1]⟩,
 ⟨some 19, none, .mov, [.t 6]⟩,
 ⟨some 20, none, .idxA 8, [.t 18, .t 19]⟩,
 ⟨some 21, none, .load (some 8), [.t 20]⟩,
 ⟨some 22, none, .call 38, [.t 21]⟩,
 ⟨some 23, none, .call 42, [.t 17, .t 22]⟩,
 ⟨some 16, none, .mov, [.t 23]⟩,
 ⟨some 24, none, .ext 0, [.t 16]⟩,
 ⟨some 25, none, .ext 1, [.t 16]⟩,
 ⟨some 7, none, .alloc [.int .i64 0, .int .i64 0, .int .i64 0, .int .u32 0, .int .u32 0, .int .u32 0, .int .i64 0, .int .i64 0, .nils], []⟩,
 ⟨none, none, .store 9, [.t 7, .t 24]⟩,
 ⟨some 8, none, .mov, [.t 25]⟩])
 (.seq (.reg [[], [0], [1], [2], [2], [3, 4, 2], [5, 2], [2], [7, 2], [6, 8, 2, 2], [9, 2], [2, 10]]
 [⟨some 26, none, .mov, [.t 8]⟩,
 ⟨some 27, none, .unNot, [.t 26]⟩,
 ⟨some 28, none, .mov, [.t 27]⟩,
 ⟨some 29, some (28, false), .mov, [.t 1]⟩,
 ⟨some 30, some (28, false), .mov, [.t 6]⟩,
 ⟨some 31, some (28, false), .idxA 8, [.t 29, .t 30]⟩,
 ⟨some 32, some (28, false), .load (some 8), [.t 31]⟩,
 ⟨some 33, some (28, false), .fldA 0, [.t 7]⟩,
 ⟨some 34, some (28, false), .load (some 8), [.t 33]⟩,
 ⟨some 35, some (28, false), .call 43, [.t 32, .t 34]⟩,
 ⟨some 36, some (28, false), .bin .gtr .scal, [.t 35, .c (.int .i64 0)]⟩,
 ⟨some 37, none, .pick, [.t 28, .c (.bool true), .t 36]⟩])
 (.cond (.t 37)
 (.reg []
 [⟨some 38, none, .mov, [.t 5]⟩,
 ⟨some 39, none, .mov, [.t 1]⟩,
 ⟨some 40, none, .mov, [.t 6]⟩,
 ⟨some 41, none, .idxA 8, [.t 39, .t 40]⟩,
 ⟨some 42, none, .load (some 8), [.t 41]⟩,
 ⟨some 43, none, .call 38, [.t 42]⟩,
 ⟨some 44, none, .bslice 3 94, [.t 43]⟩,
 ⟨some 45, none, .append 3 94 16, [.t 38, .t 44]⟩,
 ⟨some 5, none, .mov, [.t 45]⟩])
 .skip))))
 (.reg []
 [⟨some 14, none, .mov, [.t 6]⟩,
 ⟨some 15, none, .bin .add .scal, [.t 14, .c (.int .i64 1)]⟩,
 ⟨some 6, none, .mov, [.t 15]⟩]))
/-- "crossroads/crossroadsref17.Wants": 47 temporaries, 2 parameters, results some [.t 4]. -/
def ac25 : AC :=
 .seq (.reg []
 [⟨some 2, none, .box, [.t 0]⟩,
 ⟨some 4, none, .mov, [.c .nils]⟩])
 (.seq (.reg []
 [⟨some 9, none, .bslice 3 94, []⟩,
 ⟨some 5, none, .mov, [.t 9]⟩])
 (.seq (.seq (.reg []
 [⟨some 6, none, .mov, [.c (.int .i64 0)]⟩])
 (.block 0 (.loop ac25_1)))
 (.seq (.reg []
 [⟨some 46, none, .mov, [.t 5]⟩,
 ⟨some 4, none, .mov, [.t 46]⟩])
 .ret)))
theorem i25 : fnInfo Try.prog 25 = some (47, [.t 4], ac25) := by kernel_rfl
def ac26_1 : AC :=
 .seq (.reg []
 [⟨some 10, none, .bin .lss .scal, [.t 9, .t 8]⟩])
 (.seq (.cond (.t 10)
 .skip
 (.exit 0))
 (.seq (.block 1 (.seq (.reg []
 [⟨some 11, none, .idxA 9, [.t 7, .t 9]⟩,
 ⟨some 12, none, .load (some 9), [.t 11]⟩,
 ⟨some 5, none, .alloc [.int .i64 0, .int .i64 0, .int .i64 0, .int .u32 0, .int .u32 0, .int .u32 0, .int .i64 0, .int .i64 0, .nils], []⟩,
 ⟨none, none, .store 9, [.t 5, .t 12]⟩])
 (.reg []
 [⟨some 13, none, .mov, [.t 3]⟩,
 ⟨some 14, none, .fldA 0, [.t 5]⟩,
 ⟨some 15, none, .load (some 8), [.t 14]⟩,
 ⟨some 16, none, .bslice 8 67, [.t 15]⟩,
 ⟨some 17, none, .append 8 67 56, [.t 13, .t 16]⟩,
 ⟨some 3, none, .mov, [.t 17]⟩])))
 (.reg []
 [⟨some 18, none, .bin .add .scal, [.t 9, .c (.int .i64 1)]⟩,
 ⟨some 9, none, .mov, [.t 18]⟩])))
/-- "crossroads/store.Heads": 20 temporaries, 1 parameters, results some [.t 2]. -/
def ac26 : AC :=
 .seq (.reg []
 [⟨some 1, none, .box, [.t 0]⟩,
 ⟨some 2, none, .mov, [.c .nils]⟩])
 (.seq (.reg []
 [⟨some 3, none, .mov, [.c .nils]⟩])
 (.seq (.seq (.reg []
 [⟨some 6, none, .fldA 1, [.t 1]⟩,
 ⟨some 7, none, .load none, [.t 6]⟩,
 ⟨some 8, none, .lenL, [.t 7]⟩,
 ⟨some 9, none, .mov, [.c (.int .i64 0)]⟩])
 (.block 0 (.loop ac26_1)))
 (.seq (.reg []
 [⟨some 19, none, .mov, [.t 3]⟩,
 ⟨some 2, none, .mov, [.t 19]⟩])
 .ret)))
theorem i26 : fnInfo Try.prog 26 = some (20, [.t 2], ac26) := by kernel_rfl
/-- "slices.Clone[[]crossroads/api.Header,crossroads/api.Header]": 8 temporaries, 1 parameters, results some [.t 2]. -/
def ac27 : AC :=
 .seq (.reg []
 [⟨some 2, none, .mov, [.c .nils]⟩])
 (.seq (.seq (.reg []
 [⟨some 3, none, .mov, [.t 0]⟩,
 ⟨some 4, none, .bin .eql .sl, [.t 3, .c .nils]⟩])
 (.cond (.t 4)
 (.seq (.reg []
 [⟨some 2, none, .mov, [.c .nils]⟩])
 .ret)
 .skip))
 (.seq (.reg []
 [⟨some 5, none, .bslice 8 67, []⟩,
 ⟨some 6, none, .mov, [.t 0]⟩,
 ⟨some 7, none, .append 8 67 56, [.t 5, .t 6]⟩,
 ⟨some 2, none, .mov, [.t 7]⟩])
 .ret))
theorem i27 : fnInfo Try.prog 27 = some (8, [.t 2], ac27) := by kernel_rfl
/-- "(*crossroads/exch.talk).hears": 38 temporaries, 2 parameters, results some [.t 4]. -/
def ac28 : AC :=
 .seq (.reg []
 [⟨some 2, none, .box, [.t 0]⟩,
 ⟨some 3, none, .box, [.t 1]⟩,
 ⟨some 4, none, .mov, [.c .nilf]⟩])
 (.seq (.block 0 (.seq (.reg []
 [⟨some 6, none, .load none, [.t 2]⟩,
 ⟨some 7, none, .nilchk, [.t 6]⟩,
 ⟨some 8, none, .fldA 0, [.t 7]⟩,
 ⟨some 9, none, .fldA 2, [.t 8]⟩,
 ⟨some 10, none, .load none, [.t 9]⟩,
 ⟨some 11, none, .bin .eql .scal, [.t 10, .c (.int .i64 0)]⟩,
 ⟨some 5, none, .mov, [.t 11]⟩])
 (.cond (.t 5)
 (.seq (.reg []
 [⟨some 12, none, .load none, [.t 2]⟩,
 ⟨some 13, none, .mkfn 44 1, [.t 12]⟩,
 ⟨some 4, none, .mov, [.t 13]⟩])
 .ret)
 (.seq (.reg [[], [0], [1], [2], [3, 2], [2], [5, 2], [6, 2], [7, 2], [8, 2], [4, 9, 2], [2, 10], [11, 2]]
 [⟨some 15, none, .fldA 2, [.t 3]⟩,
 ⟨some 16, none, .load none, [.t 15]⟩,
 ⟨some 17, none, .mov, [.t 16]⟩,
 ⟨some 18, some (17, false), .fldA 4, [.t 3]⟩,
 ⟨some 19, some (17, false), .load none, [.t 18]⟩,
 ⟨some 20, some (17, false), .load none, [.t 2]⟩,
 ⟨some 21, some (17, false), .nilchk, [.t 20]⟩,
 ⟨some 22, some (17, false), .fldA 0, [.t 21]⟩,
 ⟨some 23, some (17, false), .fldA 3, [.t 22]⟩,
 ⟨some 24, some (17, false), .load none, [.t 23]⟩,
 ⟨some 25, some (17, false), .bin .eql .bool, [.t 19, .t 24]⟩,
 ⟨some 26, none, .pick, [.t 17, .c (.bool true), .t 25]⟩,
 ⟨some 14, none, .mov, [.t 26]⟩])
 (.cond (.t 14)
 (.seq (.reg []
 [⟨some 27, none, .mkfn 45 0, [.t 2]⟩,
 ⟨some 4, none, .mov, [.t 27]⟩])
 .ret)
 (.seq (.reg []
 [⟨some 29, none, .load none, [.t 2]⟩,
 ⟨some 30, none, .nilchk, [.t 29]⟩,
 ⟨some 31, none, .fldA 0, [.t 30]⟩,
 ⟨some 32, none, .fldA 3, [.t 31]⟩,
 ⟨some 33, none, .load none, [.t 32]⟩,
 ⟨some 28, none, .mov, [.t 33]⟩])
 (.cond (.t 28)
 (.seq (.reg []
 [⟨some 34, none, .load none, [.t 2]⟩,
 ⟨some 35, none, .mkfn 46 1, [.t 34]⟩,
 ⟨some 4, none, .mov, [.t 35]⟩])
 .ret)
 .skip)))))))
 (.seq (.reg []
 [⟨some 36, none, .load none, [.t 2]⟩,
 ⟨some 37, none, .mkfn 47 1, [.t 36]⟩,
 ⟨some 4, none, .mov, [.t 37]⟩])
 .ret))
theorem i28 : fnInfo Try.prog 28 = some (38, [.t 4], ac28) := by kernel_rfl
/-- "crossroads/crossroadsref11.Whole": 17 temporaries, 1 parameters, results some [.t 2]. -/
def ac35 : AC :=
 .seq (.reg []
 [⟨some 1, none, .box, [.t 0]⟩,
 ⟨some 2, none, .mov, [.c (.bool false)]⟩])
 (.seq (.reg [[], [0], [1], [], [3], [2, 4, 2], [5, 5, 0, 1, 2, 3, 4, 5]]
 [⟨some 4, none, .fldA 0, [.t 1]⟩,
 ⟨some 5, none, .load (some 8), [.t 4]⟩,
 ⟨some 6, none, .call 49, [.t 5]⟩,
 ⟨some 7, none, .fldA 8, [.t 1]⟩,
 ⟨some 8, none, .load none, [.t 7]⟩,
 ⟨some 9, none, .append 1 5 1, [.t 6, .t 8]⟩,
 ⟨some 3, none, .mov, [.t 9]⟩])
 (.seq (.reg []
 [⟨some 10, none, .load (some 9), [.t 1]⟩,
 ⟨some 11, none, .call 50, [.t 10]⟩,
 ⟨some 12, none, .mov, [.t 11]⟩,
 ⟨some 13, some (12, true), .mov, [.t 3]⟩,
 ⟨some 14, some (12, true), .slice 1 true false, [.t 13, .c (.int .i64 2)]⟩,
 ⟨some 15, some (12, true), .call 51, [.t 14]⟩,
 ⟨some 16, none, .pick, [.t 12, .t 15, .c (.bool false)]⟩,
 ⟨some 2, none, .mov, [.t 16]⟩])
 .ret))
theorem i35 : fnInfo Try.prog 35 = some (17, [.t 2], ac35) := by kernel_rfl
/-- "crossroads/crossroadsref12.Right": 43 temporaries, 1 parameters, results some [.t 2]. -/
def ac36 : AC :=
 .seq (.reg []
 [⟨some 1, none, .box, [.t 0]⟩,
 ⟨some 2, none, .mov, [.c (.bool false)]⟩])
 (.seq (.reg []
 [⟨some 3, none, .mov, [.c (.int .i64 3)]⟩])
 (.seq (.seq (.reg []
 [⟨some 4, none, .fldA 0, [.t 1]⟩,
 ⟨some 5, none, .fldA 2, [.t 4]⟩,
 ⟨some 6, none, .load none, [.t 5]⟩])
 (.block 0 (.seq (.reg []
 [⟨some 8, none, .bin .eql .scal, [.t 6, .c (.int .i64 1)]⟩,
 ⟨some 7, none, .mov, [.t 8]⟩])
 (.cond (.t 7)
 (.reg []
 [⟨some 10, none, .fldA 8, [.t 1]⟩,
 ⟨some 11, none, .load none, [.t 10]⟩,
 ⟨some 12, none, .call 52, [.t 11]⟩,
 ⟨some 9, none, .mov, [.t 12]⟩,
 ⟨some 13, none, .ext 0, [.t 9]⟩,
 ⟨some 14, none, .ext 1, [.t 9]⟩,
 ⟨some 3, none, .mov, [.t 14]⟩])
 (.seq (.reg []
 [⟨some 16, none, .bin .eql .scal, [.t 6, .c (.int .i64 2)]⟩,
 ⟨some 15, none, .mov, [.t 16]⟩])
 (.cond (.t 15)
 (.reg []
 [⟨some 18, none, .fldA 8, [.t 1]⟩,
 ⟨some 19, none, .load none, [.t 18]⟩,
 ⟨some 20, none, .call 53, [.t 19]⟩,
 ⟨some 17, none, .mov, [.t 20]⟩,
 ⟨some 21, none, .ext 0, [.t 17]⟩,
 ⟨some 22, none, .ext 1, [.t 17]⟩,
 ⟨some 3, none, .mov, [.t 22]⟩])
 (.seq (.seq (.reg []
 [⟨some 24, none, .bin .eql .scal, [.t 6, .c (.int .i64 3)]⟩,
 ⟨some 23, none, .mov, [.t 24]⟩])
 (.cond (.t 23)
 .skip
 (.reg []
 [⟨some 25, none, .bin .eql .scal, [.t 6, .c (.int .i64 4)]⟩,
 ⟨some 23, none, .mov, [.t 25]⟩])))
 (.cond (.t 23)
 (.reg []
 [⟨some 27, none, .fldA 8, [.t 1]⟩,
 ⟨some 28, none, .load none, [.t 27]⟩,
 ⟨some 29, none, .call 54, [.t 28]⟩,
 ⟨some 26, none, .mov, [.t 29]⟩,
 ⟨some 30, none, .ext 0, [.t 26]⟩,
 ⟨some 31, none, .ext 1, [.t 26]⟩,
 ⟨some 3, none, .mov, [.t 31]⟩])
 (.seq (.seq (.reg []
 [⟨some 33, none, .bin .eql .scal, [.t 6, .c (.int .i64 5)]⟩,
 ⟨some 32, none, .mov, [.t 33]⟩])
 (.cond (.t 32)
 .skip
 (.reg []
 [⟨some 34, none, .bin .eql .scal, [.t 6, .c (.int .i64 7)]⟩,
 ⟨some 32, none, .mov, [.t 34]⟩])))
 (.cond (.t 32)
 (.reg []
 [⟨some 36, none, .fldA 8, [.t 1]⟩,
 ⟨some 37, none, .load none, [.t 36]⟩,
 ⟨some 38, none, .call 55, [.t 37]⟩,
 ⟨some 35, none, .mov, [.t 38]⟩,
 ⟨some 39, none, .ext 0, [.t 35]⟩,
 ⟨some 40, none, .ext 1, [.t 35]⟩,
 ⟨some 3, none, .mov, [.t 40]⟩])
 .skip))))))))))
 (.seq (.reg []
 [⟨some 41, none, .mov, [.t 3]⟩,
 ⟨some 42, none, .bin .eql .scal, [.t 41, .c (.int .i64 0)]⟩,
 ⟨some 2, none, .mov, [.t 42]⟩])
 .ret)))
theorem i36 : fnInfo Try.prog 36 = some (43, [.t 2], ac36) := by kernel_rfl
/-- "crossroads/crossroadsref11.Less": 34 temporaries, 2 parameters, results some [.t 4]. -/
def ac37 : AC :=
 .seq (.reg []
 [⟨some 2, none, .box, [.t 0]⟩,
 ⟨some 3, none, .box, [.t 1]⟩,
 ⟨some 4, none, .mov, [.c (.bool false)]⟩])
 (.seq (.seq (.reg []
 [⟨some 5, none, .fldA 0, [.t 2]⟩,
 ⟨some 6, none, .load none, [.t 5]⟩,
 ⟨some 7, none, .fldA 0, [.t 3]⟩,
 ⟨some 8, none, .load none, [.t 7]⟩,
 ⟨some 9, none, .bin .neq .scal, [.t 6, .t 8]⟩])
 (.cond (.t 9)
 (.seq (.reg []
 [⟨some 10, none, .fldA 0, [.t 2]⟩,
 ⟨some 11, none, .load none, [.t 10]⟩,
 ⟨some 12, none, .fldA 0, [.t 3]⟩,
 ⟨some 13, none, .load none, [.t 12]⟩,
 ⟨some 14, none, .bin .lss .scal, [.t 11, .t 13]⟩,
 ⟨some 4, none, .mov, [.t 14]⟩])
 .ret)
 .skip))
 (.seq (.reg []
 [⟨some 15, none, .fldA 1, [.t 2]⟩,
 ⟨some 16, none, .load none, [.t 15]⟩,
 ⟨some 17, none, .fldA 1, [.t 3]⟩,
 ⟨some 18, none, .load none, [.t 17]⟩,
 ⟨some 19, none, .bin .lss .scal, [.t 16, .t 18]⟩,
 ⟨some 20, none, .mov, [.t 19]⟩,
 ⟨some 21, some (20, false), .fldA 1, [.t 2]⟩,
 ⟨some 22, some (20, false), .load none, [.t 21]⟩,
 ⟨some 23, some (20, false), .fldA 1, [.t 3]⟩,
 ⟨some 24, some (20, false), .load none, [.t 23]⟩,
 ⟨some 25, some (20, false), .bin .eql .scal, [.t 22, .t 24]⟩,
 ⟨some 26, some (20, false), .mov, [.t 25]⟩,
 ⟨some 27, some (26, true), .fldA 2, [.t 2]⟩,
 ⟨some 28, some (26, true), .load none, [.t 27]⟩,
 ⟨some 29, some (26, true), .fldA 2, [.t 3]⟩,
 ⟨some 30, some (26, true), .load none, [.t 29]⟩,
 ⟨some 31, some (26, true), .bin .lss .scal, [.t 28, .t 30]⟩,
 ⟨some 32, some (20, false), .pick, [.t 26, .t 31, .c (.bool false)]⟩,
 ⟨some 33, none, .pick, [.t 20, .c (.bool true), .t 32]⟩,
 ⟨some 4, none, .mov, [.t 33]⟩])
 .ret))
theorem i37 : fnInfo Try.prog 37 = some (34, [.t 4], ac37) := by kernel_rfl
/-- "crossroads/crossroadsref11.Key": 10 temporaries, 1 parameters, results some [.c 2 (some 3)]. -/
def ac38 : AC :=
 .seq (.reg []
 [⟨some 1, none, .box, [.t 0]⟩,
 ⟨some 2, none, .alloc [.int .i64 0, .int .u32 0, .int .u32 0], []⟩])
 (.seq (.reg []
 [⟨some 3, none, .fldA 2, [.t 1]⟩,
 ⟨some 4, none, .load none, [.t 3]⟩,
 ⟨some 5, none, .fldA 3, [.t 1]⟩,
 ⟨some 6, none, .load none, [.t 5]⟩,
 ⟨some 7, none, .fldA 4, [.t 1]⟩,
 ⟨some 8, none, .load none, [.t 7]⟩,
 ⟨some 9, none, .build [.int .i64 0, .int .u32 0, .int .u32 0] [(0, 1), (1, 1), (2, 1)], [.t 4, .t 6, .t 8]⟩,
 ⟨none, none, .store 3, [.t 2, .t 9]⟩])
 .ret)
theorem i38 : fnInfo Try.prog 38 = some (10, [.c 2 (some 3)], ac38) := by kernel_rfl
/-- "crossroads/store.Find": 22 temporaries, 2 parameters, results some [.c 4 (some 9), .t 5]. -/
def ac39 : AC :=
 .seq (.reg []
 [⟨some 2, none, .box, [.t 0]⟩,
 ⟨some 3, none, .box, [.t 1]⟩,
 ⟨some 4, none, .alloc [.int .i64 0, .int .i64 0, .int .i64 0, .int .u32 0, .int .u32 0, .int .u32 0, .int .i64 0, .int .i64 0, .nils], []⟩,
 ⟨some 5, none, .mov, [.c (.bool false)]⟩])
 (.seq (.reg []
 [⟨some 9, none, .load (some 3), [.t 2]⟩,
 ⟨some 10, none, .load (some 3), [.t 3]⟩,
 ⟨some 11, none, .call 56, [.t 9, .t 10]⟩,
 ⟨some 8, none, .mov, [.t 11]⟩,
 ⟨some 12, none, .ext 0, [.t 8]⟩,
 ⟨some 13, none, .ext 1, [.t 8]⟩,
 ⟨some 6, none, .mov, [.t 12]⟩,
 ⟨some 7, none, .mov, [.t 13]⟩])
 (.seq (.seq (.reg []
 [⟨some 14, none, .mov, [.t 7]⟩,
 ⟨some 15, none, .unNot, [.t 14]⟩])
 (.cond (.t 15)
 (.seq (.reg []
 [⟨some 16, none, .build [.int .i64 0, .int .i64 0, .int .i64 0, .int .u32 0, .int .u32 0, .int .u32 0, .int .i64 0, .int .i64 0, .nils] [], []⟩,
 ⟨none, none, .store 9, [.t 4, .t 16]⟩,
 ⟨some 5, none, .mov, [.c (.bool false)]⟩])
 .ret)
 .skip))
 (.seq (.reg []
 [⟨some 17, none, .fldA 1, [.t 2]⟩,
 ⟨some 18, none, .load none, [.t 17]⟩,
 ⟨some 19, none, .mov, [.t 6]⟩,
 ⟨some 20, none, .idxA 9, [.t 18, .t 19]⟩,
 ⟨some 21, none, .load (some 9), [.t 20]⟩,
 ⟨none, none, .store 9, [.t 4, .t 21]⟩,
 ⟨some 5, none, .mov, [.c (.bool true)]⟩])
 .ret)))
theorem i39 : fnInfo Try.prog 39 = some (22, [.c 4 (some 9), .t 5], ac39) := by kernel_rfl
/-- "crossroads/lsa.Key": 10 temporaries, 1 parameters, results some [.c 2 (some 3)]. -/
def ac40 : AC :=
 .seq (.reg []
 [⟨some 1, none, .box, [.t 0]⟩,
 ⟨some 2, none, .alloc [.int .i64 0, .int .u32 0, .int .u32 0], []⟩])
 (.seq (.reg []
 [⟨some 3, none, .fldA 2, [.t 1]⟩,
 ⟨some 4, none, .load none, [.t 3]⟩,
 ⟨some 5, none, .fldA 3, [.t 1]⟩,
 ⟨some 6, none, .load none, [.t 5]⟩,
 ⟨some 7, none, .fldA 4, [.t 1]⟩,
 ⟨some 8, none, .load none, [.t 7]⟩,
 ⟨some 9, none, .build [.int .i64 0, .int .u32 0, .int .u32 0] [(0, 1), (1, 1), (2, 1)], [.t 4, .t 6, .t 8]⟩,
 ⟨none, none, .store 3, [.t 2, .t 9]⟩])
 .ret)
theorem i40 : fnInfo Try.prog 40 = some (10, [.c 2 (some 3)], ac40) := by kernel_rfl
/-- "crossroads/lsa.Compare": 27 temporaries, 2 parameters, results some [.t 4]. -/
def ac41 : AC :=
 .seq (.reg []
 [⟨some 2, none, .box, [.t 0]⟩,
 ⟨some 3, none, .box, [.t 1]⟩,
 ⟨some 4, none, .mov, [.c (.int .i64 0)]⟩])
 (.seq (.reg [[], [0], [1], [], [3], [4], [2, 5], [], [7], [], [9], [8, 10, 6], [], [12, 11], [], [14, 13], [13, 15], [], [], [17, 18, 15], [6, 11, 16, 19], [20, 19], [21, 21, 0, 1, 2, 3, 4, 5, 6, 7, 8, 9, 10, 11, 12, 13, 14, 15, 16, 17, 18, 19, 20, 21]]
 [⟨some 5, none, .fldA 5, [.t 2]⟩,
 ⟨some 6, none, .load none, [.t 5]⟩,
 ⟨some 7, none, .conv .i32, [.t 6]⟩,
 ⟨some 8, none, .fldA 5, [.t 3]⟩,
 ⟨some 9, none, .load none, [.t 8]⟩,
 ⟨some 10, none, .conv .i32, [.t 9]⟩,
 ⟨some 11, none, .call 58, [.t 7, .t 10]⟩,
 ⟨some 12, none, .fldA 6, [.t 2]⟩,
 ⟨some 13, none, .load none, [.t 12]⟩,
 ⟨some 14, none, .fldA 6, [.t 3]⟩,
 ⟨some 15, none, .load none, [.t 14]⟩,
 ⟨some 16, none, .call 59, [.t 13, .t 15]⟩,
 ⟨some 17, none, .load (some 8), [.t 2]⟩,
 ⟨some 18, none, .call 60, [.t 17]⟩,
 ⟨some 19, none, .load (some 8), [.t 3]⟩,
 ⟨some 20, none, .call 60, [.t 19]⟩,
 ⟨some 21, none, .bin .sub .scal, [.t 18, .t 20]⟩,
 ⟨some 22, none, .load (some 8), [.t 2]⟩,
 ⟨some 23, none, .load (some 8), [.t 3]⟩,
 ⟨some 24, none, .call 61, [.t 22, .t 23]⟩,
 ⟨some 25, none, .bslice 1 3, [.t 11, .t 16, .t 21, .t 24]⟩,
 ⟨some 26, none, .call 57, [.t 25]⟩,
 ⟨some 4, none, .mov, [.t 26]⟩])
 .ret)
theorem i41 : fnInfo Try.prog 41 = some (27, [.t 4], ac41) := by kernel_rfl
def ac42_1 : AC :=
 .seq (.seq (.reg []
 [⟨some 7, none, .mov, [.t 6]⟩,
 ⟨some 8, none, .fldA 1, [.t 2]⟩,
 ⟨some 9, none, .load none, [.t 8]⟩,
 ⟨some 10, none, .lenL, [.t 9]⟩,
 ⟨some 11, none, .bin .lss .scal, [.t 7, .t 10]⟩])
 (.cond (.t 11)
 .skip
 (.exit 0)))
 (.seq (.block 1 (.seq (.reg [[], [0], [], [1, 2], [3], [4], [5], [], [6, 7]]
 [⟨some 14, none, .fldA 1, [.t 2]⟩,
 ⟨some 15, none, .load none, [.t 14]⟩,
 ⟨some 16, none, .mov, [.t 6]⟩,
 ⟨some 17, none, .idxA 9, [.t 15, .t 16]⟩,
 ⟨some 18, none, .fldA 0, [.t 17]⟩,
 ⟨some 19, none, .load (some 8), [.t 18]⟩,
 ⟨some 20, none, .call 38, [.t 19]⟩,
 ⟨some 21, none, .load (some 3), [.t 3]⟩,
 ⟨some 22, none, .bin .eql (.flat [.int .i64, .int .u32, .int .u32]), [.t 20, .t 21]⟩])
 (.cond (.t 22)
 (.seq (.reg []
 [⟨some 23, none, .fldA 1, [.t 2]⟩,
 ⟨some 24, none, .load none, [.t 23]⟩,
 ⟨some 25, none, .mov, [.t 6]⟩,
 ⟨some 26, none, .idxA 9, [.t 24, .t 25]⟩,
 ⟨some 27, none, .load (some 9), [.t 26]⟩,
 ⟨none, none, .store 9, [.t 4, .t 27]⟩,
 ⟨some 5, none, .mov, [.c (.bool true)]⟩])
 .ret)
 .skip)))
 (.reg []
 [⟨some 12, none, .mov, [.t 6]⟩,
 ⟨some 13, none, .bin .add .scal, [.t 12, .c (.int .i64 1)]⟩,
 ⟨some 6, none, .mov, [.t 13]⟩]))
/-- "crossroads/crossroadsref14.Find": 29 temporaries, 2 parameters, results some [.c 4 (some 9), .t 5]. -/
def ac42 : AC :=
 .seq (.reg []
 [⟨some 2, none, .box, [.t 0]⟩,
 ⟨some 3, none, .box, [.t 1]⟩,
 ⟨some 4, none, .alloc [.int .i64 0, .int .i64 0, .int .i64 0, .int .u32 0, .int .u32 0, .int .u32 0, .int .i64 0, .int .i64 0, .nils], []⟩,
 ⟨some 5, none, .mov, [.c (.bool false)]⟩])
 (.seq (.seq (.reg []
 [⟨some 6, none, .mov, [.c (.int .i64 0)]⟩])
 (.block 0 (.loop ac42_1)))
 (.seq (.reg []
 [⟨some 28, none, .build [.int .i64 0, .int .i64 0, .int .i64 0, .int .u32 0, .int .u32 0, .int .u32 0, .int .i64 0, .int .i64 0, .nils] [], []⟩,
 ⟨none, none, .store 9, [.t 4, .t 28]⟩,
 ⟨some 5, none, .mov, [.c (.bool false)]⟩])
 .ret))
theorem i42 : fnInfo Try.prog 42 = some (29, [.c 4 (some 9), .t 5], ac42) := by kernel_rfl
/-- "crossroads/crossroadsref11.Compare": 62 temporaries, 2 parameters, results some [.t 4]. -/
def ac43 : AC :=
 .seq (.reg []
 [⟨some 2, none, .box, [.t 0]⟩,
 ⟨some 3, none, .box, [.t 1]⟩,
 ⟨some 4, none, .mov, [.c (.int .i64 0)]⟩])
 (.seq (.seq (.reg []
 [⟨some 5, none, .fldA 5, [.t 2]⟩,
 ⟨some 6, none, .load none, [.t 5]⟩,
 ⟨some 7, none, .conv .i32, [.t 6]⟩,
 ⟨some 8, none, .fldA 5, [.t 3]⟩,
 ⟨some 9, none, .load none, [.t 8]⟩,
 ⟨some 10, none, .conv .i32, [.t 9]⟩,
 ⟨some 11, none, .bin .neq .scal, [.t 7, .t 10]⟩])
 (.cond (.t 11)
 (.seq (.reg []
 [⟨some 12, none, .fldA 5, [.t 2]⟩,
 ⟨some 13, none, .load none, [.t 12]⟩,
 ⟨some 14, none, .conv .i32, [.t 13]⟩,
 ⟨some 15, none, .fldA 5, [.t 3]⟩,
 ⟨some 16, none, .load none, [.t 15]⟩,
 ⟨some 17, none, .conv .i32, [.t 16]⟩,
 ⟨some 18, none, .bin .gtr .scal, [.t 14, .t 17]⟩,
 ⟨some 19, none, .call 62, [.t 18]⟩,
 ⟨some 4, none, .mov, [.t 19]⟩])
 .ret)
 .skip))
 (.seq (.seq (.reg []
 [⟨some 20, none, .fldA 6, [.t 2]⟩,
 ⟨some 21, none, .load none, [.t 20]⟩,
 ⟨some 22, none, .fldA 6, [.t 3]⟩,
 ⟨some 23, none, .load none, [.t 22]⟩,
 ⟨some 24, none, .bin .neq .scal, [.t 21, .t 23]⟩])
 (.cond (.t 24)
 (.seq (.reg []
 [⟨some 25, none, .fldA 6, [.t 2]⟩,
 ⟨some 26, none, .load none, [.t 25]⟩,
 ⟨some 27, none, .fldA 6, [.t 3]⟩,
 ⟨some 28, none, .load none, [.t 27]⟩,
 ⟨some 29, none, .bin .gtr .scal, [.t 26, .t 28]⟩,
 ⟨some 30, none, .call 62, [.t 29]⟩,
 ⟨some 4, none, .mov, [.t 30]⟩])
 .ret)
 .skip))
 (.seq (.seq (.reg []
 [⟨some 31, none, .fldA 0, [.t 2]⟩,
 ⟨some 32, none, .load none, [.t 31]⟩,
 ⟨some 33, none, .bin .eql .scal, [.t 32, .c (.int .i64 3600)]⟩,
 ⟨some 34, none, .fldA 0, [.t 3]⟩,
 ⟨some 35, none, .load none, [.t 34]⟩,
 ⟨some 36, none, .bin .eql .scal, [.t 35, .c (.int .i64 3600)]⟩,
 ⟨some 37, none, .bin .neq .bool, [.t 33, .t 36]⟩])
 (.cond (.t 37)
 (.seq (.reg []
 [⟨some 38, none, .fldA 0, [.t 2]⟩,
 ⟨some 39, none, .load none, [.t 38]⟩,
 ⟨some 40, none, .bin .eql .scal, [.t 39, .c (.int .i64 3600)]⟩,
 ⟨some 41, none, .call 62, [.t 40]⟩,
 ⟨some 4, none, .mov, [.t 41]⟩])
 .ret)
 .skip))
 (.seq (.seq (.reg []
 [⟨some 42, none, .fldA 0, [.t 2]⟩,
 ⟨some 43, none, .load none, [.t 42]⟩,
 ⟨some 44, none, .fldA 0, [.t 3]⟩,
 ⟨some 45, none, .load none, [.t 44]⟩,
 ⟨some 46, none, .bin .add .scal, [.t 45, .c (.int .i64 900)]⟩,
 ⟨some 47, none, .bin .gtr .scal, [.t 43, .t 46]⟩,
 ⟨some 48, none, .mov, [.t 47]⟩,
 ⟨some 49, some (48, false), .fldA 0, [.t 3]⟩,
 ⟨some 50, some (48, false), .load none, [.t 49]⟩,
 ⟨some 51, some (48, false), .fldA 0, [.t 2]⟩,
 ⟨some 52, some (48, false), .load none, [.t 51]⟩,
 ⟨some 53, some (48, false), .bin .add .scal, [.t 52, .c (.int .i64 900)]⟩,
 ⟨some 54, some (48, false), .bin .gtr .scal, [.t 50, .t 53]⟩,
 ⟨some 55, none, .pick, [.t 48, .c (.bool true), .t 54]⟩])
 (.cond (.t 55)
 (.seq (.reg []
 [⟨some 56, none, .fldA 0, [.t 2]⟩,
 ⟨some 57, none, .load none, [.t 56]⟩,
 ⟨some 58, none, .fldA 0, [.t 3]⟩,
 ⟨some 59, none, .load none, [.t 58]⟩,
 ⟨some 60, none, .bin .lss .scal, [.t 57, .t 59]⟩,
 ⟨some 61, none, .call 62, [.t 60]⟩,
 ⟨some 4, none, .mov, [.t 61]⟩])
 .ret)
 .skip))
 (.seq (.reg []
 [⟨some 4, none, .mov, [.c (.int .i64 0)]⟩])
 .ret)))))
theorem i43 : fnInfo Try.prog 43 = some (62, [.t 4], ac43) := by kernel_rfl
/-- "(*crossroads/exch.talk).begin": 93 temporaries, 2 parameters, results some []. -/
def ac44 : AC :=
 .seq (.reg []
 [⟨some 3, none, .box, [.t 1]⟩])
 (.seq (.reg []
 [⟨some 6, none, .fldA 2, [.t 3]⟩,
 ⟨some 7, none, .load none, [.t 6]⟩,
 ⟨some 8, none, .mov, [.t 7]⟩,
 ⟨some 9, some (8, true), .fldA 3, [.t 3]⟩,
 ⟨some 10, some (8, true), .load none, [.t 9]⟩,
 ⟨some 11, none, .pick, [.t 8, .t 10, .c (.bool false)]⟩,
 ⟨some 12, none, .mov, [.t 11]⟩,
 ⟨some 13, some (12, true), .fldA 4, [.t 3]⟩,
 ⟨some 14, some (12, true), .load none, [.t 13]⟩,
 ⟨some 15, none, .pick, [.t 12, .t 14, .c (.bool false)]⟩,
 ⟨some 16, none, .mov, [.t 15]⟩,
 ⟨some 17, some (16, true), .fldA 6, [.t 3]⟩,
 ⟨some 18, some (16, true), .load none, [.t 17]⟩,
 ⟨some 19, some (16, true), .lenL, [.t 18]⟩,
 ⟨some 20, some (16, true), .bin .eql .scal, [.t 19, .c (.int .i64 0)]⟩,
 ⟨some 21, none, .pick, [.t 16, .t 20, .c (.bool false)]⟩,
 ⟨some 4, none, .mov, [.t 21]⟩])
 (.seq (.reg [[], [0], [1], [2], [3], [4, 3], [5, 3], [3, 6], [7, 3], [8], [9, 8], [8], [11, 8], [12, 8], [13, 8], [14, 8], [10, 15, 8], [8, 16], [17, 8, 0, 1, 2, 3, 4, 5, 6, 7, 8, 9, 10, 11, 12, 13, 14, 15, 16, 17]]
 [⟨some 22, none, .fldA 2, [.t 3]⟩,
 ⟨some 23, none, .load none, [.t 22]⟩,
 ⟨some 24, none, .unNot, [.t 23]⟩,
 ⟨some 25, none, .mov, [.t 24]⟩,
 ⟨some 26, some (25, true), .fldA 4, [.t 3]⟩,
 ⟨some 27, some (25, true), .load none, [.t 26]⟩,
 ⟨some 28, some (25, true), .unNot, [.t 27]⟩,
 ⟨some 29, none, .pick, [.t 25, .t 28, .c (.bool false)]⟩,
 ⟨some 30, none, .mov, [.t 29]⟩,
 ⟨some 31, some (30, true), .fldA 5, [.t 3]⟩,
 ⟨some 32, some (30, true), .load none, [.t 31]⟩,
 ⟨some 33, some (30, true), .mov, [.t 0]⟩,
 ⟨some 34, some (30, true), .nilchk, [.t 33]⟩,
 ⟨some 35, some (30, true), .fldA 0, [.t 34]⟩,
 ⟨some 36, some (30, true), .fldA 4, [.t 35]⟩,
 ⟨some 37, some (30, true), .load none, [.t 36]⟩,
 ⟨some 38, some (30, true), .bin .eql .scal, [.t 32, .t 37]⟩,
 ⟨some 39, none, .pick, [.t 30, .t 38, .c (.bool false)]⟩,
 ⟨some 5, none, .mov, [.t 39]⟩])
 (.block 0 (.seq (.reg [[], [0], [1], [2, 1], [3, 1], [4, 1], [5, 1], [1], [7, 1], [8, 1], [9, 1], [10, 1], [6, 11, 1], [1, 12], [13, 1]]
 [⟨some 41, none, .mov, [.t 4]⟩,
 ⟨some 42, none, .mov, [.t 41]⟩,
 ⟨some 43, some (42, true), .mov, [.t 0]⟩,
 ⟨some 44, some (42, true), .nilchk, [.t 43]⟩,
 ⟨some 45, some (42, true), .fldA 0, [.t 44]⟩,
 ⟨some 46, some (42, true), .fldA 1, [.t 45]⟩,
 ⟨some 47, some (42, true), .load none, [.t 46]⟩,
 ⟨some 48, some (42, true), .mov, [.t 0]⟩,
 ⟨some 49, some (42, true), .nilchk, [.t 48]⟩,
 ⟨some 50, some (42, true), .fldA 0, [.t 49]⟩,
 ⟨some 51, some (42, true), .fldA 0, [.t 50]⟩,
 ⟨some 52, some (42, true), .load none, [.t 51]⟩,
 ⟨some 53, some (42, true), .bin .gtr .scal, [.t 47, .t 52]⟩,
 ⟨some 54, none, .pick, [.t 42, .t 53, .c (.bool false)]⟩,
 ⟨some 40, none, .mov, [.t 54]⟩])
 (.cond (.t 40)
 (.seq (.reg [[], [], [], [2], [0, 0], [4, 0], [5, 0], [6, 0], [1, 0, 1, 2, 3, 4, 5, 6, 7], [8, 0, 1, 2, 3, 4, 5, 6, 7], [9, 0, 1, 2, 3, 4, 5, 6, 7], [10, 3, 7, 0, 1, 2, 3, 4, 5, 6, 7]]
 [⟨some 55, none, .mov, [.t 0]⟩,
 ⟨some 56, none, .mov, [.t 0]⟩,
 ⟨some 57, none, .fldA 5, [.t 3]⟩,
 ⟨some 58, none, .load none, [.t 57]⟩,
 ⟨some 59, none, .nilchk, [.t 55]⟩,
 ⟨some 60, none, .fldA 0, [.t 59]⟩,
 ⟨some 61, none, .fldA 2, [.t 60]⟩,
 ⟨none, none, .store 1, [.t 61, .c (.int .i64 1)]⟩,
 ⟨some 62, none, .nilchk, [.t 56]⟩,
 ⟨some 63, none, .fldA 0, [.t 62]⟩,
 ⟨some 64, none, .fldA 4, [.t 63]⟩,
 ⟨none, none, .store 1, [.t 64, .t 58]⟩])
 (.reg []
 [⟨some 65, none, .mov, [.t 0]⟩,
 ⟨some 66, none, .call 63, [.t 65]⟩]))
 (.seq (.reg [[], [0], [1], [2, 1], [3, 1], [4, 1], [5, 1], [1], [7, 1], [8, 1], [9, 1], [10, 1], [6, 11, 1], [1, 12], [13, 1]]
 [⟨some 68, none, .mov, [.t 5]⟩,
 ⟨some 69, none, .mov, [.t 68]⟩,
 ⟨some 70, some (69, true), .mov, [.t 0]⟩,
 ⟨some 71, some (69, true), .nilchk, [.t 70]⟩,
 ⟨some 72, some (69, true), .fldA 0, [.t 71]⟩,
 ⟨some 73, some (69, true), .fldA 1, [.t 72]⟩,
 ⟨some 74, some (69, true), .load none, [.t 73]⟩,
 ⟨some 75, some (69, true), .mov, [.t 0]⟩,
 ⟨some 76, some (69, true), .nilchk, [.t 75]⟩,
 ⟨some 77, some (69, true), .fldA 0, [.t 76]⟩,
 ⟨some 78, some (69, true), .fldA 0, [.t 77]⟩,
 ⟨some 79, some (69, true), .load none, [.t 78]⟩,
 ⟨some 80, some (69, true), .bin .lss .scal, [.t 74, .t 79]⟩,
 ⟨some 81, none, .pick, [.t 69, .t 80, .c (.bool false)]⟩,
 ⟨some 67, none, .mov, [.t 81]⟩])
 (.cond (.t 67)
 (.seq (.reg []
 [⟨some 82, none, .mov, [.t 0]⟩,
 ⟨some 83, none, .mov, [.t 0]⟩,
 ⟨some 84, none, .nilchk, [.t 82]⟩,
 ⟨some 85, none, .fldA 0, [.t 84]⟩,
 ⟨some 86, none, .fldA 2, [.t 85]⟩,
 ⟨none, none, .store 1, [.t 86, .c (.int .i64 1)]⟩,
 ⟨some 87, none, .nilchk, [.t 83]⟩,
 ⟨some 88, none, .fldA 0, [.t 87]⟩,
 ⟨some 89, none, .fldA 3, [.t 88]⟩,
 ⟨none, none, .store 1, [.t 89, .c (.bool true)]⟩])
 (.reg []
 [⟨some 90, none, .mov, [.t 0]⟩,
 ⟨some 91, none, .load (some 7), [.t 3]⟩,
 ⟨some 92, none, .call 46, [.t 90, .t 91]⟩]))
 .skip)))))))
theorem i44 : fnInfo Try.prog 44 = some (93, [], ac44) := by kernel_rfl
/-- "(*crossroads/exch.talk).hears$1": 6 temporaries, 1 parameters, results some []. -/
def ac45 : AC :=
 .seq (.reg []
 [⟨some 2, none, .box, [.t 0]⟩])
 (.reg []
 [⟨some 3, none, .load none, [.t 1]⟩,
 ⟨some 4, none, .nilchk, [.t 3]⟩,
 ⟨some 5, none, .fldA 22, [.t 4]⟩,
 ⟨none, none, .store 1, [.t 5, .c (.int .i64 13)]⟩])
theorem i45 : fnInfo Try.prog 45 = some (6, [], ac45) := by kernel_rfl
/-- "(*crossroads/exch.talk).lead": 74 temporaries, 2 parameters, results some []. -/
def ac46 : AC :=
 .seq (.reg []
 [⟨some 3, none, .box, [.t 1]⟩])
 (.seq (.block 0 (.seq (.reg [[], [0], [], [2], [3], [4], [5], [6], [1, 7], [8], [9], [10, 9], [9], [12, 9], [13, 9], [14, 9], [15, 9], [11, 16, 9], [17, 9, 9], [18], [19, 18], [20, 18], [21, 18], [22, 18], [23, 18], [18, 24, 9], [9, 25], [26, 18]]
 [⟨some 5, none, .fldA 5, [.t 3]⟩,
 ⟨some 6, none, .load none, [.t 5]⟩,
 ⟨some 7, none, .mov, [.t 0]⟩,
 ⟨some 8, none, .nilchk, [.t 7]⟩,
 ⟨some 9, none, .fldA 0, [.t 8]⟩,
 ⟨some 10, none, .fldA 4, [.t 9]⟩,
 ⟨some 11, none, .load none, [.t 10]⟩,
 ⟨some 12, none, .bin .sub .scal, [.t 11, .c (.int .u32 1)]⟩,
 ⟨some 13, none, .bin .eql .scal, [.t 6, .t 12]⟩,
 ⟨some 14, none, .mov, [.t 13]⟩,
 ⟨some 15, some (14, false), .fldA 5, [.t 3]⟩,
 ⟨some 16, some (14, false), .load none, [.t 15]⟩,
 ⟨some 17, some (14, false), .mov, [.t 0]⟩,
 ⟨some 18, some (14, false), .nilchk, [.t 17]⟩,
 ⟨some 19, some (14, false), .fldA 0, [.t 18]⟩,
 ⟨some 20, some (14, false), .fldA 4, [.t 19]⟩,
 ⟨some 21, some (14, false), .load none, [.t 20]⟩,
 ⟨some 22, some (14, false), .bin .eql .scal, [.t 16, .t 21]⟩,
 ⟨some 23, some (14, false), .mov, [.t 22]⟩,
 ⟨some 24, some (23, true), .mov, [.t 0]⟩,
 ⟨some 25, some (23, true), .nilchk, [.t 24]⟩,
 ⟨some 26, some (23, true), .fldA 0, [.t 25]⟩,
 ⟨some 27, some (23, true), .fldA 2, [.t 26]⟩,
 ⟨some 28, some (23, true), .load none, [.t 27]⟩,
 ⟨some 29, some (23, true), .bin .eql .scal, [.t 28, .c (.int .i64 2)]⟩,
 ⟨some 30, some (14, false), .pick, [.t 23, .t 29, .c (.bool false)]⟩,
 ⟨some 31, none, .pick, [.t 14, .c (.bool true), .t 30]⟩,
 ⟨some 4, none, .mov, [.t 31]⟩])
 (.cond (.t 4)
 .ret
 (.seq (.reg [[], [0], [], [2], [3], [4], [5], [1, 6], [7]]
 [⟨some 33, none, .fldA 5, [.t 3]⟩,
 ⟨some 34, none, .load none, [.t 33]⟩,
 ⟨some 35, none, .mov, [.t 0]⟩,
 ⟨some 36, none, .nilchk, [.t 35]⟩,
 ⟨some 37, none, .fldA 0, [.t 36]⟩,
 ⟨some 38, none, .fldA 4, [.t 37]⟩,
 ⟨some 39, none, .load none, [.t 38]⟩,
 ⟨some 40, none, .bin .neq .scal, [.t 34, .t 39]⟩,
 ⟨some 32, none, .mov, [.t 40]⟩])
 (.cond (.t 32)
 (.seq (.reg []
 [⟨some 41, none, .mov, [.t 0]⟩,
 ⟨some 42, none, .nilchk, [.t 41]⟩,
 ⟨some 43, none, .fldA 22, [.t 42]⟩,
 ⟨none, none, .store 1, [.t 43, .c (.int .i64 13)]⟩])
 .ret)
 .skip)))))
 (.seq (.reg []
 [⟨some 44, none, .mov, [.t 0]⟩,
 ⟨some 45, none, .load (some 7), [.t 3]⟩,
 ⟨some 46, none, .call 64, [.t 44, .t 45]⟩])
 (.seq (.seq (.reg []
 [⟨some 47, none, .mov, [.t 0]⟩,
 ⟨some 48, none, .nilchk, [.t 47]⟩,
 ⟨some 49, none, .fldA 0, [.t 48]⟩,
 ⟨some 50, none, .fldA 7, [.t 49]⟩,
 ⟨some 51, none, .fldA 3, [.t 50]⟩,
 ⟨some 52, none, .load none, [.t 51]⟩,
 ⟨some 53, none, .unNot, [.t 52]⟩,
 ⟨some 54, none, .mov, [.t 53]⟩,
 ⟨some 55, some (54, true), .fldA 3, [.t 3]⟩,
 ⟨some 56, some (54, true), .load none, [.t 55]⟩,
 ⟨some 57, some (54, true), .unNot, [.t 56]⟩,
 ⟨some 58, none, .pick, [.t 54, .t 57, .c (.bool false)]⟩])
 (.cond (.t 58)
 (.seq (.reg []
 [⟨some 59, none, .mov, [.t 0]⟩,
 ⟨some 60, none, .nilchk, [.t 59]⟩,
 ⟨some 61, none, .fldA 0, [.t 60]⟩,
 ⟨some 62, none, .fldA 2, [.t 61]⟩,
 ⟨none, none, .store 1, [.t 62, .c (.int .i64 2)]⟩])
 .ret)
 .skip))
 (.seq (.reg []
 [⟨some 63, none, .mov, [.t 0]⟩,
 ⟨some 64, none, .nilchk, [.t 63]⟩,
 ⟨some 65, none, .fldA 0, [.t 64]⟩,
 ⟨some 66, none, .fldA 4, [.t 65]⟩,
 ⟨some 67, none, .load none, [.t 66]⟩,
 ⟨some 68, none, .bin .add .scal, [.t 67, .c (.int .u32 1)]⟩,
 ⟨some 69, none, .nilchk, [.t 63]⟩,
 ⟨some 70, none, .fldA 0, [.t 69]⟩,
 ⟨some 71, none, .fldA 4, [.t 70]⟩,
 ⟨none, none, .store 1, [.t 71, .t 68]⟩])
 (.reg []
 [⟨some 72, none, .mov, [.t 0]⟩,
 ⟨some 73, none, .call 63, [.t 72]⟩])))))
theorem i46 : fnInfo Try.prog 46 = some (74, [], ac46) := by kernel_rfl
/-- "(*crossroads/exch.talk).follow": 67 temporaries, 2 parameters, results some []. -/
def ac47 : AC :=
 .seq (.reg []
 [⟨some 3, none, .box, [.t 1]⟩])
 (.seq (.block 0 (.seq (.reg [[], [0], [], [2], [3], [4], [5], [1, 6], [7]]
 [⟨some 5, none, .fldA 5, [.t 3]⟩,
 ⟨some 6, none, .load none, [.t 5]⟩,
 ⟨some 7, none, .mov, [.t 0]⟩,
 ⟨some 8, none, .nilchk, [.t 7]⟩,
 ⟨some 9, none, .fldA 0, [.t 8]⟩,
 ⟨some 10, none, .fldA 4, [.t 9]⟩,
 ⟨some 11, none, .load none, [.t 10]⟩,
 ⟨some 12, none, .bin .eql .scal, [.t 6, .t 11]⟩,
 ⟨some 4, none, .mov, [.t 12]⟩])
 (.cond (.t 4)
 (.seq (.reg []
 [⟨some 13, none, .mov, [.t 0]⟩,
 ⟨some 14, none, .mov, [.t 0]⟩,
 ⟨some 15, none, .nilchk, [.t 14]⟩,
 ⟨some 16, none, .fldA 0, [.t 15]⟩,
 ⟨some 17, none, .fldA 7, [.t 16]⟩,
 ⟨some 18, none, .load (some 7), [.t 17]⟩,
 ⟨some 19, none, .call 65, [.t 13, .t 18]⟩])
 .ret)
 (.seq (.reg [[], [0], [], [2], [3], [4], [5], [6], [1, 7], [8], [9], [10, 9], [11, 9], [12, 9], [13, 9], [14, 9], [9, 15], [16, 9]]
 [⟨some 21, none, .fldA 5, [.t 3]⟩,
 ⟨some 22, none, .load none, [.t 21]⟩,
 ⟨some 23, none, .mov, [.t 0]⟩,
 ⟨some 24, none, .nilchk, [.t 23]⟩,
 ⟨some 25, none, .fldA 0, [.t 24]⟩,
 ⟨some 26, none, .fldA 4, [.t 25]⟩,
 ⟨some 27, none, .load none, [.t 26]⟩,
 ⟨some 28, none, .bin .add .scal, [.t 27, .c (.int .u32 1)]⟩,
 ⟨some 29, none, .bin .neq .scal, [.t 22, .t 28]⟩,
 ⟨some 30, none, .mov, [.t 29]⟩,
 ⟨some 31, some (30, false), .mov, [.t 0]⟩,
 ⟨some 32, some (30, false), .nilchk, [.t 31]⟩,
 ⟨some 33, some (30, false), .fldA 0, [.t 32]⟩,
 ⟨some 34, some (30, false), .fldA 2, [.t 33]⟩,
 ⟨some 35, some (30, false), .load none, [.t 34]⟩,
 ⟨some 36, some (30, false), .bin .eql .scal, [.t 35, .c (.int .i64 2)]⟩,
 ⟨some 37, none, .pick, [.t 30, .c (.bool true), .t 36]⟩,
 ⟨some 20, none, .mov, [.t 37]⟩])
 (.cond (.t 20)
 (.seq (.reg []
 [⟨some 38, none, .mov, [.t 0]⟩,
 ⟨some 39, none, .nilchk, [.t 38]⟩,
 ⟨some 40, none, .fldA 22, [.t 39]⟩,
 ⟨none, none, .store 1, [.t 40, .c (.int .i64 13)]⟩])
 .ret)
 .skip)))))
 (.seq (.reg []
 [⟨some 41, none, .mov, [.t 0]⟩,
 ⟨some 42, none, .load (some 7), [.t 3]⟩,
 ⟨some 43, none, .call 64, [.t 41, .t 42]⟩])
 (.seq (.reg []
 [⟨some 44, none, .mov, [.t 0]⟩,
 ⟨some 45, none, .fldA 5, [.t 3]⟩,
 ⟨some 46, none, .load none, [.t 45]⟩,
 ⟨some 47, none, .nilchk, [.t 44]⟩,
 ⟨some 48, none, .fldA 0, [.t 47]⟩,
 ⟨some 49, none, .fldA 4, [.t 48]⟩,
 ⟨none, none, .store 1, [.t 49, .t 46]⟩])
 (.seq (.reg []
 [⟨some 50, none, .mov, [.t 0]⟩,
 ⟨some 51, none, .call 63, [.t 50]⟩])
 (.seq (.reg []
 [⟨some 52, none, .fldA 3, [.t 3]⟩,
 ⟨some 53, none, .load none, [.t 52]⟩,
 ⟨some 54, none, .unNot, [.t 53]⟩,
 ⟨some 55, none, .mov, [.t 54]⟩,
 ⟨some 56, some (55, true), .mov, [.t 0]⟩,
 ⟨some 57, some (55, true), .nilchk, [.t 56]⟩,
 ⟨some 58, some (55, true), .fldA 14, [.t 57]⟩,
 ⟨some 59, some (55, true), .fldA 3, [.t 58]⟩,
 ⟨some 60, some (55, true), .load none, [.t 59]⟩,
 ⟨some 61, some (55, true), .unNot, [.t 60]⟩,
 ⟨some 62, none, .pick, [.t 55, .t 61, .c (.bool false)]⟩])
 (.cond (.t 62)
 (.reg []
 [⟨some 63, none, .mov, [.t 0]⟩,
 ⟨some 64, none, .nilchk, [.t 63]⟩,
 ⟨some 65, none, .fldA 0, [.t 64]⟩,
 ⟨some 66, none, .fldA 2, [.t 65]⟩,
 ⟨none, none, .store 1, [.t 66, .c (.int .i64 2)]⟩])
 .skip))))))
theorem i47 : fnInfo Try.prog 47 = some (67, [], ac47) := by kernel_rfl
/-- "crossroads/crossroadsref11.raw": 40 temporaries, 1 parameters, results some [.t 2]. -/
def ac49 : AC :=
 .seq (.reg []
 [⟨some 1, none, .box, [.t 0]⟩,
 ⟨some 2, none, .mov, [.c .nils]⟩])
 (.seq (.reg [[], [0], [1], [], [3], [4], [], [6], [7], [5, 8], [2, 9, 2], [10, 10, 0, 1, 2, 3, 4, 5, 6, 7, 8, 9, 10]]
 [⟨some 4, none, .fldA 0, [.t 1]⟩,
 ⟨some 5, none, .load none, [.t 4]⟩,
 ⟨some 6, none, .call 66, [.t 5]⟩,
 ⟨some 7, none, .fldA 1, [.t 1]⟩,
 ⟨some 8, none, .load none, [.t 7]⟩,
 ⟨some 9, none, .conv .u8, [.t 8]⟩,
 ⟨some 10, none, .fldA 2, [.t 1]⟩,
 ⟨some 11, none, .load none, [.t 10]⟩,
 ⟨some 12, none, .conv .u8, [.t 11]⟩,
 ⟨some 13, none, .bslice 1 5, [.t 9, .t 12]⟩,
 ⟨some 14, none, .append 1 5 1, [.t 6, .t 13]⟩,
 ⟨some 3, none, .mov, [.t 14]⟩])
 (.seq (.reg []
 [⟨some 15, none, .mov, [.t 3]⟩,
 ⟨some 16, none, .fldA 3, [.t 1]⟩,
 ⟨some 17, none, .load none, [.t 16]⟩,
 ⟨some 18, none, .call 67, [.t 17]⟩,
 ⟨some 19, none, .append 1 5 1, [.t 15, .t 18]⟩,
 ⟨some 3, none, .mov, [.t 19]⟩])
 (.seq (.reg []
 [⟨some 20, none, .mov, [.t 3]⟩,
 ⟨some 21, none, .fldA 4, [.t 1]⟩,
 ⟨some 22, none, .load none, [.t 21]⟩,
 ⟨some 23, none, .call 67, [.t 22]⟩,
 ⟨some 24, none, .append 1 5 1, [.t 20, .t 23]⟩,
 ⟨some 3, none, .mov, [.t 24]⟩])
 (.seq (.reg []
 [⟨some 25, none, .mov, [.t 3]⟩,
 ⟨some 26, none, .fldA 5, [.t 1]⟩,
 ⟨some 27, none, .load none, [.t 26]⟩,
 ⟨some 28, none, .call 67, [.t 27]⟩,
 ⟨some 29, none, .append 1 5 1, [.t 25, .t 28]⟩,
 ⟨some 3, none, .mov, [.t 29]⟩])
 (.seq (.reg []
 [⟨some 30, none, .mov, [.t 3]⟩,
 ⟨some 31, none, .fldA 6, [.t 1]⟩,
 ⟨some 32, none, .load none, [.t 31]⟩,
 ⟨some 33, none, .call 66, [.t 32]⟩,
 ⟨some 34, none, .append 1 5 1, [.t 30, .t 33]⟩,
 ⟨some 3, none, .mov, [.t 34]⟩])
 (.seq (.reg []
 [⟨some 35, none, .mov, [.t 3]⟩,
 ⟨some 36, none, .fldA 7, [.t 1]⟩,
 ⟨some 37, none, .load none, [.t 36]⟩,
 ⟨some 38, none, .call 66, [.t 37]⟩,
 ⟨some 39, none, .append 1 5 1, [.t 35, .t 38]⟩,
 ⟨some 2, none, .mov, [.t 39]⟩])
 .ret))))))
theorem i49 : fnInfo Try.prog 49 = some (40, [.t 2], ac49) := by kernel_rfl
/-- "crossroads/crossroadsref11.MayAd": 16 temporaries, 1 parameters, results some [.t 2]. -/
def ac50 : AC :=
 .seq (.reg []
 [⟨some 1, none, .box, [.t 0]⟩,
 ⟨some 2, none, .mov, [.c (.bool false)]⟩])
 (.seq (.reg []
 [⟨some 3, none, .fldA 0, [.t 1]⟩,
 ⟨some 4, none, .load (some 8), [.t 3]⟩,
 ⟨some 5, none, .call 68, [.t 4]⟩,
 ⟨some 6, none, .mov, [.t 5]⟩,
 ⟨some 7, some (6, true), .fldA 0, [.t 1]⟩,
 ⟨some 8, some (6, true), .fldA 7, [.t 7]⟩,
 ⟨some 9, some (6, true), .load none, [.t 8]⟩,
 ⟨some 10, some (6, true), .fldA 8, [.t 1]⟩,
 ⟨some 11, some (6, true), .load none, [.t 10]⟩,
 ⟨some 12, some (6, true), .lenL, [.t 11]⟩,
 ⟨some 13, some (6, true), .bin .add .scal, [.c (.int .i64 20), .t 12]⟩,
 ⟨some 14, some (6, true), .bin .eql .scal, [.t 9, .t 13]⟩,
 ⟨some 15, none, .pick, [.t 6, .t 14, .c (.bool false)]⟩,
 ⟨some 2, none, .mov, [.t 15]⟩])
 .ret)
theorem i50 : fnInfo Try.prog 50 = some (16, [.t 2], ac50) := by kernel_rfl
/-- "crossroads/crossroadsref02.Fits": 16 temporaries, 1 parameters, results some [.t 2]. -/
def ac51 : AC :=
 .seq (.reg []
 [⟨some 2, none, .mov, [.c (.bool false)]⟩])
 (.seq (.reg []
 [⟨some 6, none, .mov, [.t 0]⟩,
 ⟨some 7, none, .call 69, [.t 6]⟩,
 ⟨some 5, none, .mov, [.t 7]⟩,
 ⟨some 8, none, .ext 0, [.t 5]⟩,
 ⟨some 9, none, .ext 1, [.t 5]⟩,
 ⟨some 3, none, .mov, [.t 8]⟩,
 ⟨some 4, none, .mov, [.t 9]⟩])
 (.seq (.reg []
 [⟨some 10, none, .mov, [.t 3]⟩,
 ⟨some 11, none, .bin .eql .scal, [.t 10, .c (.int .i64 0)]⟩,
 ⟨some 12, none, .mov, [.t 11]⟩,
 ⟨some 13, some (12, true), .mov, [.t 4]⟩,
 ⟨some 14, some (12, true), .bin .eql .scal, [.t 13, .c (.int .i64 0)]⟩,
 ⟨some 15, none, .pick, [.t 12, .t 14, .c (.bool false)]⟩,
 ⟨some 2, none, .mov, [.t 15]⟩])
 .ret))
theorem i51 : fnInfo Try.prog 51 = some (16, [.t 2], ac51) := by kernel_rfl
def ac52_1 : AC :=
 .seq (.seq (.reg []
 [⟨some 53, none, .mov, [.t 6]⟩,
 ⟨some 54, none, .mov, [.t 53]⟩,
 ⟨some 55, some (54, true), .mov, [.t 7]⟩,
 ⟨some 56, some (54, true), .mov, [.t 4]⟩,
 ⟨some 57, some (54, true), .bin .lss .scal, [.t 55, .t 56]⟩,
 ⟨some 58, none, .pick, [.t 54, .t 57, .c (.bool false)]⟩])
 (.cond (.t 58)
 .skip
 (.exit 0)))
 (.seq (.block 1 (.seq (.reg []
 [⟨some 62, none, .mov, [.t 0]⟩,
 ⟨some 63, none, .mov, [.t 7]⟩,
 ⟨some 64, none, .bin .mul .scal, [.c (.int .i64 12), .t 63]⟩,
 ⟨some 65, none, .bin .add .scal, [.c (.int .i64 4), .t 64]⟩,
 ⟨some 66, none, .mov, [.t 7]⟩,
 ⟨some 67, none, .bin .mul .scal, [.c (.int .i64 12), .t 66]⟩,
 ⟨some 68, none, .bin .add .scal, [.c (.int .i64 16), .t 67]⟩,
 ⟨some 69, none, .slice 1 true true, [.t 62, .t 65, .t 68]⟩,
 ⟨some 70, none, .call 70, [.t 69, .c (.int .i64 4)]⟩,
 ⟨some 61, none, .mov, [.t 70]⟩,
 ⟨some 71, none, .ext 0, [.t 61]⟩,
 ⟨some 72, none, .ext 1, [.t 61]⟩,
 ⟨some 8, none, .mov, [.t 71]⟩,
 ⟨some 9, none, .mov, [.t 72]⟩])
 (.seq (.reg [[], [0], [1], [], [3], [4], [], [6], [7], [8], [9], [], [11], [12], [13], [14], [2, 5, 10, 15], [], [17, 16, 0, 1, 2, 3, 4, 5, 6, 7, 8, 9, 10, 11, 12, 13, 14, 15, 16, 17]]
 [⟨some 73, none, .mov, [.t 8]⟩,
 ⟨some 74, none, .idxA 1, [.t 73, .c (.int .i64 0)]⟩,
 ⟨some 75, none, .load none, [.t 74]⟩,
 ⟨some 76, none, .mov, [.t 8]⟩,
 ⟨some 77, none, .idxA 1, [.t 76, .c (.int .i64 1)]⟩,
 ⟨some 78, none, .load none, [.t 77]⟩,
 ⟨some 79, none, .mov, [.t 8]⟩,
 ⟨some 80, none, .idxA 1, [.t 79, .c (.int .i64 2)]⟩,
 ⟨some 81, none, .load none, [.t 80]⟩,
 ⟨some 82, none, .bin .quo .scal, [.t 81, .c (.int .u32 16777216)]⟩,
 ⟨some 83, none, .conv .i64, [.t 82]⟩,
 ⟨some 84, none, .mov, [.t 8]⟩,
 ⟨some 85, none, .idxA 1, [.t 84, .c (.int .i64 2)]⟩,
 ⟨some 86, none, .load none, [.t 85]⟩,
 ⟨some 87, none, .bin .rem .scal, [.t 86, .c (.int .u32 65536)]⟩,
 ⟨some 88, none, .conv .i64, [.t 87]⟩,
 ⟨some 89, none, .build [.int .i64 0, .int .u32 0, .int .u32 0, .int .i64 0] [(1, 1), (2, 1), (0, 1), (3, 1)], [.t 75, .t 78, .t 83, .t 88]⟩,
 ⟨some 10, none, .alloc [.int .i64 0, .int .u32 0, .int .u32 0, .int .i64 0], []⟩,
 ⟨none, none, .store 4, [.t 10, .t 89]⟩])
 (.seq (.reg []
 [⟨some 90, none, .mov, [.t 6]⟩,
 ⟨some 91, none, .mov, [.t 90]⟩,
 ⟨some 92, some (91, true), .mov, [.t 8]⟩,
 ⟨some 93, some (91, true), .idxA 1, [.t 92, .c (.int .i64 2)]⟩,
 ⟨some 94, some (91, true), .load none, [.t 93]⟩,
 ⟨some 95, some (91, true), .bin .quo .scal, [.t 94, .c (.int .u32 65536)]⟩,
 ⟨some 96, some (91, true), .bin .rem .scal, [.t 95, .c (.int .u32 256)]⟩,
 ⟨some 97, some (91, true), .bin .eql .scal, [.t 96, .c (.int .u32 0)]⟩,
 ⟨some 98, none, .pick, [.t 91, .t 97, .c (.bool false)]⟩,
 ⟨some 6, none, .mov, [.t 98]⟩])
 (.reg []
 [⟨some 99, none, .fldA 1, [.t 5]⟩,
 ⟨some 100, none, .load none, [.t 99]⟩,
 ⟨some 101, none, .load (some 4), [.t 10]⟩,
 ⟨some 102, none, .bslice 4 136, [.t 101]⟩,
 ⟨some 103, none, .append 4 136 24, [.t 100, .t 102]⟩,
 ⟨some 104, none, .fldA 1, [.t 5]⟩,
 ⟨none, none, .store 1, [.t 104, .t 103]⟩])))))
 (.reg []
 [⟨some 59, none, .mov, [.t 7]⟩,
 ⟨some 60, none, .bin .add .scal, [.t 59, .c (.int .i64 1)]⟩,
 ⟨some 7, none, .mov, [.t 60]⟩]))
/-- "crossroads/crossroadsref12.ReadRouter": 114 temporaries, 1 parameters, results some [.c 2 (some 2), .t 3]. -/
def ac52 : AC :=
 .seq (.reg []
 [⟨some 2, none, .alloc [.int .i64 0, .nils], []⟩,
 ⟨some 3, none, .mov, [.c (.int .i64 0)]⟩])
 (.seq (.seq (.reg []
 [⟨some 11, none, .mov, [.t 0]⟩,
 ⟨some 12, none, .lenL, [.t 11]⟩,
 ⟨some 13, none, .bin .lss .scal, [.t 12, .c (.int .i64 4)]⟩])
 (.cond (.t 13)
 (.seq (.reg []
 [⟨some 14, none, .build [.int .i64 0, .nils] [], []⟩,
 ⟨none, none, .store 2, [.t 2, .t 14]⟩,
 ⟨some 3, none, .mov, [.c (.int .i64 2)]⟩])
 .ret)
 .skip))
 (.seq (.reg [[], [0], [1], [2], [3], [], [5], [6], [7], [4, 8], [9, 0, 1, 2, 3, 4, 5, 6, 7, 8, 9]]
 [⟨some 15, none, .mov, [.t 0]⟩,
 ⟨some 16, none, .idxA 1, [.t 15, .c (.int .i64 2)]⟩,
 ⟨some 17, none, .load none, [.t 16]⟩,
 ⟨some 18, none, .conv .i64, [.t 17]⟩,
 ⟨some 19, none, .bin .mul .scal, [.c (.int .i64 256), .t 18]⟩,
 ⟨some 20, none, .mov, [.t 0]⟩,
 ⟨some 21, none, .idxA 1, [.t 20, .c (.int .i64 3)]⟩,
 ⟨some 22, none, .load none, [.t 21]⟩,
 ⟨some 23, none, .conv .i64, [.t 22]⟩,
 ⟨some 24, none, .bin .add .scal, [.t 19, .t 23]⟩,
 ⟨some 4, none, .mov, [.t 24]⟩])
 (.seq (.seq (.reg []
 [⟨some 25, none, .mov, [.t 0]⟩,
 ⟨some 26, none, .lenL, [.t 25]⟩,
 ⟨some 27, none, .mov, [.t 4]⟩,
 ⟨some 28, none, .bin .mul .scal, [.c (.int .i64 12), .t 27]⟩,
 ⟨some 29, none, .bin .add .scal, [.c (.int .i64 4), .t 28]⟩,
 ⟨some 30, none, .bin .lss .scal, [.t 26, .t 29]⟩])
 (.cond (.t 30)
 (.seq (.reg []
 [⟨some 31, none, .build [.int .i64 0, .nils] [], []⟩,
 ⟨none, none, .store 2, [.t 2, .t 31]⟩,
 ⟨some 3, none, .mov, [.c (.int .i64 2)]⟩])
 .ret)
 .skip))
 (.seq (.reg []
 [⟨some 32, none, .mov, [.t 0]⟩,
 ⟨some 33, none, .idxA 1, [.t 32, .c (.int .i64 0)]⟩,
 ⟨some 34, none, .load none, [.t 33]⟩,
 ⟨some 35, none, .conv .i64, [.t 34]⟩,
 ⟨some 36, none, .build [.int .i64 0, .nils] [(0, 1)], [.t 35]⟩,
 ⟨some 5, none, .alloc [.int .i64 0, .nils], []⟩,
 ⟨none, none, .store 2, [.t 5, .t 36]⟩])
 (.seq (.reg []
 [⟨some 37, none, .mov, [.t 0]⟩,
 ⟨some 38, none, .idxA 1, [.t 37, .c (.int .i64 1)]⟩,
 ⟨some 39, none, .load none, [.t 38]⟩,
 ⟨some 40, none, .bin .eql .scal, [.t 39, .c (.int .u8 0)]⟩,
 ⟨some 41, none, .mov, [.t 40]⟩,
 ⟨some 42, some (41, true), .mov, [.t 0]⟩,
 ⟨some 43, some (41, true), .lenL, [.t 42]⟩,
 ⟨some 44, some (41, true), .mov, [.t 4]⟩,
 ⟨some 45, some (41, true), .bin .mul .scal, [.c (.int .i64 12), .t 44]⟩,
 ⟨some 46, some (41, true), .bin .add .scal, [.c (.int .i64 4), .t 45]⟩,
 ⟨some 47, some (41, true), .bin .eql .scal, [.t 43, .t 46]⟩,
 ⟨some 48, none, .pick, [.t 41, .t 47, .c (.bool false)]⟩,
 ⟨some 49, none, .mov, [.t 48]⟩,
 ⟨some 50, some (49, true), .mov, [.t 4]⟩,
 ⟨some 51, some (49, true), .bin .leq .scal, [.t 50, .c (.int .i64 100)]⟩,
 ⟨some 52, none, .pick, [.t 49, .t 51, .c (.bool false)]⟩,
 ⟨some 6, none, .mov, [.t 52]⟩])
 (.seq (.seq (.reg []
 [⟨some 7, none, .mov, [.c (.int .i64 0)]⟩])
 (.block 0 (.loop ac52_1)))
 (.seq (.seq (.reg []
 [⟨some 105, none, .mov, [.t 6]⟩,
 ⟨some 106, none, .unNot, [.t 105]⟩,
 ⟨some 107, none, .mov, [.t 106]⟩,
 ⟨some 108, some (107, false), .load (some 2), [.t 5]⟩,
 ⟨some 109, some (107, false), .call 71, [.t 108]⟩,
 ⟨some 110, some (107, false), .unNot, [.t 109]⟩,
 ⟨some 111, none, .pick, [.t 107, .c (.bool true), .t 110]⟩])
 (.cond (.t 111)
 (.seq (.reg []
 [⟨some 112, none, .build [.int .i64 0, .nils] [], []⟩,
 ⟨none, none, .store 2, [.t 2, .t 112]⟩,
 ⟨some 3, none, .mov, [.c (.int .i64 3)]⟩])
 .ret)
 .skip))
 (.seq (.reg []
 [⟨some 113, none, .load (some 2), [.t 5]⟩,
 ⟨none, none, .store 2, [.t 2, .t 113]⟩,
 ⟨some 3, none, .mov, [.c (.int .i64 0)]⟩])
 .ret))))))))
theorem i52 : fnInfo Try.prog 52 = some (114, [.c 2 (some 2), .t 3], ac52) := by kernel_rfl
/-- "crossroads/crossroadsref12.ReadNetwork": 36 temporaries, 1 parameters, results some [.c 2 (some 2), .t 3]. -/
def ac53 : AC :=
 .seq (.reg []
 [⟨some 2, none, .alloc [.int .u32 0, .nils], []⟩,
 ⟨some 3, none, .mov, [.c (.int .i64 0)]⟩])
 (.seq (.reg []
 [⟨some 7, none, .mov, [.t 0]⟩,
 ⟨some 8, none, .call 70, [.t 7, .c (.int .i64 4)]⟩,
 ⟨some 6, none, .mov, [.t 8]⟩,
 ⟨some 9, none, .ext 0, [.t 6]⟩,
 ⟨some 10, none, .ext 1, [.t 6]⟩,
 ⟨some 4, none, .mov, [.t 9]⟩,
 ⟨some 5, none, .mov, [.t 10]⟩])
 (.seq (.seq (.reg []
 [⟨some 11, none, .mov, [.t 5]⟩,
 ⟨some 12, none, .bin .neq .scal, [.t 11, .c (.int .i64 0)]⟩,
 ⟨some 13, none, .mov, [.t 12]⟩,
 ⟨some 14, some (13, false), .mov, [.t 4]⟩,
 ⟨some 15, some (13, false), .lenL, [.t 14]⟩,
 ⟨some 16, some (13, false), .bin .lss .scal, [.t 15, .c (.int .i64 2)]⟩,
 ⟨some 17, none, .pick, [.t 13, .c (.bool true), .t 16]⟩])
 (.cond (.t 17)
 (.seq (.reg []
 [⟨some 18, none, .build [.int .u32 0, .nils] [], []⟩,
 ⟨none, none, .store 2, [.t 2, .t 18]⟩,
 ⟨some 3, none, .mov, [.c (.int .i64 2)]⟩])
 .ret)
 .skip))
 (.seq (.seq (.reg []
 [⟨some 19, none, .mov, [.t 4]⟩,
 ⟨some 20, none, .idxA 1, [.t 19, .c (.int .i64 0)]⟩,
 ⟨some 21, none, .load none, [.t 20]⟩,
 ⟨some 22, none, .call 72, [.t 21]⟩,
 ⟨some 23, none, .unNot, [.t 22]⟩,
 ⟨some 24, none, .mov, [.t 23]⟩,
 ⟨some 25, some (24, false), .mov, [.t 4]⟩,
 ⟨some 26, some (24, false), .lenL, [.t 25]⟩,
 ⟨some 27, some (24, false), .bin .gtr .scal, [.t 26, .c (.int .i64 201)]⟩,
 ⟨some 28, none, .pick, [.t 24, .c (.bool true), .t 27]⟩])
 (.cond (.t 28)
 (.seq (.reg []
 [⟨some 29, none, .build [.int .u32 0, .nils] [], []⟩,
 ⟨none, none, .store 2, [.t 2, .t 29]⟩,
 ⟨some 3, none, .mov, [.c (.int .i64 3)]⟩])
 .ret)
 .skip))
 (.seq (.reg [[], [0], [1], [], [3], [2, 4], [5, 0, 1, 2, 3, 4, 5], [6, 0, 1, 2, 3, 4, 5, 6]]
 [⟨some 30, none, .mov, [.t 4]⟩,
 ⟨some 31, none, .idxA 1, [.t 30, .c (.int .i64 0)]⟩,
 ⟨some 32, none, .load none, [.t 31]⟩,
 ⟨some 33, none, .mov, [.t 4]⟩,
 ⟨some 34, none, .slice 1 true false, [.t 33, .c (.int .i64 1)]⟩,
 ⟨some 35, none, .build [.int .u32 0, .nils] [(0, 1), (1, 1)], [.t 32, .t 34]⟩,
 ⟨none, none, .store 2, [.t 2, .t 35]⟩,
 ⟨some 3, none, .mov, [.c (.int .i64 0)]⟩])
 .ret))))
theorem i53 : fnInfo Try.prog 53 = some (36, [.c 2 (some 2), .t 3], ac53) := by kernel_rfl
/-- "crossroads/crossroadsref12.ReadSummary": 39 temporaries, 1 parameters, results some [.c 2 (some 2), .t 3]. -/
def ac54 : AC :=
 .seq (.reg []
 [⟨some 2, none, .alloc [.int .u32 0, .int .i64 0], []⟩,
 ⟨some 3, none, .mov, [.c (.int .i64 0)]⟩])
 (.seq (.seq (.reg []
 [⟨some 6, none, .mov, [.t 0]⟩,
 ⟨some 7, none, .lenL, [.t 6]⟩,
 ⟨some 8, none, .bin .lss .scal, [.t 7, .c (.int .i64 8)]⟩])
 (.cond (.t 8)
 (.seq (.reg []
 [⟨some 9, none, .build [.int .u32 0, .int .i64 0] [], []⟩,
 ⟨none, none, .store 2, [.t 2, .t 9]⟩,
 ⟨some 3, none, .mov, [.c (.int .i64 2)]⟩])
 .ret)
 .skip))
 (.seq (.seq (.reg []
 [⟨some 10, none, .mov, [.t 0]⟩,
 ⟨some 11, none, .lenL, [.t 10]⟩,
 ⟨some 12, none, .bin .gtr .scal, [.t 11, .c (.int .i64 8)]⟩,
 ⟨some 13, none, .mov, [.t 12]⟩,
 ⟨some 14, some (13, false), .mov, [.t 0]⟩,
 ⟨some 15, some (13, false), .idxA 1, [.t 14, .c (.int .i64 4)]⟩,
 ⟨some 16, some (13, false), .load none, [.t 15]⟩,
 ⟨some 17, some (13, false), .bin .neq .scal, [.t 16, .c (.int .u8 0)]⟩,
 ⟨some 18, none, .pick, [.t 13, .c (.bool true), .t 17]⟩])
 (.cond (.t 18)
 (.seq (.reg []
 [⟨some 19, none, .build [.int .u32 0, .int .i64 0] [], []⟩,
 ⟨none, none, .store 2, [.t 2, .t 19]⟩,
 ⟨some 3, none, .mov, [.c (.int .i64 3)]⟩])
 .ret)
 .skip))
 (.seq (.reg []
 [⟨some 21, none, .mov, [.t 0]⟩,
 ⟨some 22, none, .call 70, [.t 21, .c (.int .i64 4)]⟩,
 ⟨some 20, none, .mov, [.t 22]⟩,
 ⟨some 23, none, .ext 0, [.t 20]⟩,
 ⟨some 24, none, .ext 1, [.t 20]⟩,
 ⟨some 4, none, .mov, [.t 23]⟩,
 ⟨some 5, none, .mov, [.t 24]⟩])
 (.seq (.seq (.reg []
 [⟨some 25, none, .mov, [.t 4]⟩,
 ⟨some 26, none, .idxA 1, [.t 25, .c (.int .i64 0)]⟩,
 ⟨some 27, none, .load none, [.t 26]⟩,
 ⟨some 28, none, .call 72, [.t 27]⟩,
 ⟨some 29, none, .unNot, [.t 28]⟩])
 (.cond (.t 29)
 (.seq (.reg []
 [⟨some 30, none, .build [.int .u32 0, .int .i64 0] [], []⟩,
 ⟨none, none, .store 2, [.t 2, .t 30]⟩,
 ⟨some 3, none, .mov, [.c (.int .i64 3)]⟩])
 .ret)
 .skip))
 (.seq (.reg [[], [0], [1], [], [3], [4], [5], [2, 6], [7, 0, 1, 2, 3, 4, 5, 6, 7], [8, 0, 1, 2, 3, 4, 5, 6, 7, 8]]
 [⟨some 31, none, .mov, [.t 4]⟩,
 ⟨some 32, none, .idxA 1, [.t 31, .c (.int .i64 0)]⟩,
 ⟨some 33, none, .load none, [.t 32]⟩,
 ⟨some 34, none, .mov, [.t 4]⟩,
 ⟨some 35, none, .idxA 1, [.t 34, .c (.int .i64 1)]⟩,
 ⟨some 36, none, .load none, [.t 35]⟩,
 ⟨some 37, none, .conv .i64, [.t 36]⟩,
 ⟨some 38, none, .build [.int .u32 0, .int .i64 0] [(0, 1), (1, 1)], [.t 33, .t 37]⟩,
 ⟨none, none, .store 2, [.t 2, .t 38]⟩,
 ⟨some 3, none, .mov, [.c (.int .i64 0)]⟩])
 .ret)))))
theorem i54 : fnInfo Try.prog 54 = some (39, [.c 2 (some 2), .t 3], ac54) := by kernel_rfl
/-- "crossroads/crossroadsref12.ReadExternal": 56 temporaries, 1 parameters, results some [.c 2 (some 5), .t 3]. -/
def ac55 : AC :=
 .seq (.reg []
 [⟨some 2, none, .alloc [.int .u32 0, .bool false, .int .i64 0, .int .u32 0, .int .u32 0], []⟩,
 ⟨some 3, none, .mov, [.c (.int .i64 0)]⟩])
 (.seq (.seq (.reg []
 [⟨some 6, none, .mov, [.t 0]⟩,
 ⟨some 7, none, .lenL, [.t 6]⟩,
 ⟨some 8, none, .bin .lss .scal, [.t 7, .c (.int .i64 16)]⟩])
 (.cond (.t 8)
 (.seq (.reg []
 [⟨some 9, none, .build [.int .u32 0, .bool false, .int .i64 0, .int .u32 0, .int .u32 0] [], []⟩,
 ⟨none, none, .store 5, [.t 2, .t 9]⟩,
 ⟨some 3, none, .mov, [.c (.int .i64 2)]⟩])
 .ret)
 .skip))
 (.seq (.seq (.reg []
 [⟨some 10, none, .mov, [.t 0]⟩,
 ⟨some 11, none, .lenL, [.t 10]⟩,
 ⟨some 12, none, .bin .gtr .scal, [.t 11, .c (.int .i64 16)]⟩,
 ⟨some 13, none, .mov, [.t 12]⟩,
 ⟨some 14, some (13, false), .mov, [.t 0]⟩,
 ⟨some 15, some (13, false), .idxA 1, [.t 14, .c (.int .i64 4)]⟩,
 ⟨some 16, some (13, false), .load none, [.t 15]⟩,
 ⟨some 17, some (13, false), .bin .neq .scal, [.t 16, .c (.int .u8 0)]⟩,
 ⟨some 18, some (13, false), .mov, [.t 17]⟩,
 ⟨some 19, some (18, true), .mov, [.t 0]⟩,
 ⟨some 20, some (18, true), .idxA 1, [.t 19, .c (.int .i64 4)]⟩,
 ⟨some 21, some (18, true), .load none, [.t 20]⟩,
 ⟨some 22, some (18, true), .bin .neq .scal, [.t 21, .c (.int .u8 128)]⟩,
 ⟨some 23, some (13, false), .pick, [.t 18, .t 22, .c (.bool false)]⟩,
 ⟨some 24, none, .pick, [.t 13, .c (.bool true), .t 23]⟩])
 (.cond (.t 24)
 (.seq (.reg []
 [⟨some 25, none, .build [.int .u32 0, .bool false, .int .i64 0, .int .u32 0, .int .u32 0] [], []⟩,
 ⟨none, none, .store 5, [.t 2, .t 25]⟩,
 ⟨some 3, none, .mov, [.c (.int .i64 3)]⟩])
 .ret)
 .skip))
 (.seq (.reg []
 [⟨some 27, none, .mov, [.t 0]⟩,
 ⟨some 28, none, .call 70, [.t 27, .c (.int .i64 4)]⟩,
 ⟨some 26, none, .mov, [.t 28]⟩,
 ⟨some 29, none, .ext 0, [.t 26]⟩,
 ⟨some 30, none, .ext 1, [.t 26]⟩,
 ⟨some 4, none, .mov, [.t 29]⟩,
 ⟨some 5, none, .mov, [.t 30]⟩])
 (.seq (.seq (.reg []
 [⟨some 31, none, .mov, [.t 4]⟩,
 ⟨some 32, none, .idxA 1, [.t 31, .c (.int .i64 0)]⟩,
 ⟨some 33, none, .load none, [.t 32]⟩,
 ⟨some 34, none, .call 72, [.t 33]⟩,
 ⟨some 35, none, .unNot, [.t 34]⟩])
 (.cond (.t 35)
 (.seq (.reg []
 [⟨some 36, none, .build [.int .u32 0, .bool false, .int .i64 0, .int .u32 0, .int .u32 0] [], []⟩,
 ⟨none, none, .store 5, [.t 2, .t 36]⟩,
 ⟨some 3, none, .mov, [.c (.int .i64 3)]⟩])
 .ret)
 .skip))
 (.seq (.reg [[], [0], [1], [], [3], [4], [5], [], [7], [8], [9], [10], [], [12], [13], [], [15], [16], [2, 6, 11, 14, 17], [18, 0, 1, 2, 3, 4, 5, 6, 7, 8, 9, 10, 11, 12, 13, 14, 15, 16, 17, 18], [19, 0, 1, 2, 3, 4, 5, 6, 7, 8, 9, 10, 11, 12, 13, 14, 15, 16, 17, 18, 19]]
 [⟨some 37, none, .mov, [.t 4]⟩,
 ⟨some 38, none, .idxA 1, [.t 37, .c (.int .i64 0)]⟩,
 ⟨some 39, none, .load none, [.t 38]⟩,
 ⟨some 40, none, .mov, [.t 0]⟩,
 ⟨some 41, none, .idxA 1, [.t 40, .c (.int .i64 4)]⟩,
 ⟨some 42, none, .load none, [.t 41]⟩,
 ⟨some 43, none, .bin .eql .scal, [.t 42, .c (.int .u8 128)]⟩,
 ⟨some 44, none, .mov, [.t 4]⟩,
 ⟨some 45, none, .idxA 1, [.t 44, .c (.int .i64 1)]⟩,
 ⟨some 46, none, .load none, [.t 45]⟩,
 ⟨some 47, none, .bin .rem .scal, [.t 46, .c (.int .u32 16777216)]⟩,
 ⟨some 48, none, .conv .i64, [.t 47]⟩,
 ⟨some 49, none, .mov, [.t 4]⟩,
 ⟨some 50, none, .idxA 1, [.t 49, .c (.int .i64 2)]⟩,
 ⟨some 51, none, .load none, [.t 50]⟩,
 ⟨some 52, none, .mov, [.t 4]⟩,
 ⟨some 53, none, .idxA 1, [.t 52, .c (.int .i64 3)]⟩,
 ⟨some 54, none, .load none, [.t 53]⟩,
 ⟨some 55, none, .build [.int .u32 0, .bool false, .int .i64 0, .int .u32 0, .int .u32 0] [(0, 1), (1, 1), (2, 1), (3, 1), (4, 1)], [.t 39, .t 43, .t 48, .t 51, .t 54]⟩,
 ⟨none, none, .store 5, [.t 2, .t 55]⟩,
 ⟨some 3, none, .mov, [.c (.int .i64 0)]⟩])
 .ret)))))
theorem i55 : fnInfo Try.prog 55 = some (56, [.c 2 (some 5), .t 3], ac55) := by kernel_rfl
/-- "(crossroads/store.Store).at": 12 temporaries, 2 parameters, results some [.t 4, .t 5]. -/
def ac56 : AC :=
 .seq (.reg []
 [⟨some 2, none, .box, [.t 0]⟩,
 ⟨some 3, none, .box, [.t 1]⟩,
 ⟨some 4, none, .mov, [.c (.int .i64 0)]⟩,
 ⟨some 5, none, .mov, [.c (.bool false)]⟩])
 (.seq (.reg []
 [⟨some 6, none, .fldA 1, [.t 2]⟩,
 ⟨some 7, none, .load none, [.t 6]⟩,
 ⟨some 8, none, .load (some 3), [.t 3]⟩,
 ⟨some 9, none, .call 73, [.t 7, .t 8, .f 74]⟩,
 ⟨some 10, none, .ext 0, [.t 9]⟩,
 ⟨some 11, none, .ext 1, [.t 9]⟩,
 ⟨some 4, none, .mov, [.t 10]⟩,
 ⟨some 5, none, .mov, [.t 11]⟩])
 .ret)
theorem i56 : fnInfo Try.prog 56 = some (12, [.t 4, .t 5], ac56) := by kernel_rfl
def ac57_1 : AC :=
 .seq (.reg []
 [⟨some 8, none, .bin .lss .scal, [.t 7, .t 6]⟩])
 (.seq (.cond (.t 8)
 .skip
 (.exit 0))
 (.seq (.block 1 (.seq (.reg []
 [⟨some 9, none, .idxA 1, [.t 5, .t 7]⟩,
 ⟨some 10, none, .load none, [.t 9]⟩,
 ⟨some 4, none, .mov, [.t 10]⟩])
 (.seq (.reg []
 [⟨some 11, none, .mov, [.t 4]⟩,
 ⟨some 12, none, .bin .neq .scal, [.t 11, .c (.int .i64 0)]⟩])
 (.cond (.t 12)
 (.seq (.reg []
 [⟨some 13, none, .mov, [.t 4]⟩,
 ⟨some 2, none, .mov, [.t 13]⟩])
 .ret)
 .skip))))
 (.reg []
 [⟨some 14, none, .bin .add .scal, [.t 7, .c (.int .i64 1)]⟩,
 ⟨some 7, none, .mov, [.t 14]⟩])))
/-- "crossroads/lsa.first": 15 temporaries, 1 parameters, results some [.t 2]. -/
def ac57 : AC :=
 .seq (.reg []
 [⟨some 2, none, .mov, [.c (.int .i64 0)]⟩])
 (.seq (.seq (.reg []
 [⟨some 5, none, .mov, [.t 0]⟩,
 ⟨some 6, none, .lenL, [.t 5]⟩,
 ⟨some 7, none, .mov, [.c (.int .i64 0)]⟩])
 (.block 0 (.loop ac57_1)))
 (.seq (.reg []
 [⟨some 2, none, .mov, [.c (.int .i64 0)]⟩])
 .ret))
theorem i57 : fnInfo Try.prog 57 = some (15, [.t 2], ac57) := by kernel_rfl
/-- "cmp.Compare[int32]": 20 temporaries, 2 parameters, results some [.t 4]. -/
def ac58 : AC :=
 .seq (.reg []
 [⟨some 4, none, .mov, [.c (.int .i64 0)]⟩])
 (.seq (.reg []
 [⟨some 7, none, .mov, [.t 0]⟩,
 ⟨some 8, none, .call 76, [.t 7]⟩,
 ⟨some 5, none, .mov, [.t 8]⟩])
 (.seq (.reg []
 [⟨some 9, none, .mov, [.t 1]⟩,
 ⟨some 10, none, .call 76, [.t 9]⟩,
 ⟨some 6, none, .mov, [.t 10]⟩])
 (.seq (.seq (.reg []
 [⟨some 11, none, .mov, [.t 5]⟩])
 (.cond (.t 11)
 (.seq (.seq (.reg []
 [⟨some 12, none, .mov, [.t 6]⟩])
 (.cond (.t 12)
 (.seq (.reg []
 [⟨some 4, none, .mov, [.c (.int .i64 0)]⟩])
 .ret)
 .skip))
 (.seq (.reg []
 [⟨some 4, none, .mov, [.c (.int .i64 (-1))]⟩])
 .ret))
 .skip))
 (.seq (.seq (.reg []
 [⟨some 13, none, .mov, [.t 6]⟩])
 (.cond (.t 13)
 (.seq (.reg []
 [⟨some 4, none, .mov, [.c (.int .i64 1)]⟩])
 .ret)
 .skip))
 (.seq (.seq (.reg []
 [⟨some 14, none, .mov, [.t 0]⟩,
 ⟨some 15, none, .mov, [.t 1]⟩,
 ⟨some 16, none, .bin .lss .scal, [.t 14, .t 15]⟩])
 (.cond (.t 16)
 (.seq (.reg []
 [⟨some 4, none, .mov, [.c (.int .i64 (-1))]⟩])
 .ret)
 .skip))
 (.seq (.seq (.reg []
 [⟨some 17, none, .mov, [.t 0]⟩,
 ⟨some 18, none, .mov, [.t 1]⟩,
 ⟨some 19, none, .bin .gtr .scal, [.t 17, .t 18]⟩])
 (.cond (.t 19)
 (.seq (.reg []
 [⟨some 4, none, .mov, [.c (.int .i64 1)]⟩])
 .ret)
 .skip))
 (.seq (.reg []
 [⟨some 4, none, .mov, [.c (.int .i64 0)]⟩])
 .ret)))))))
theorem i58 : fnInfo Try.prog 58 = some (20, [.t 4], ac58) := by kernel_rfl
/-- "cmp.Compare[int]": 20 temporaries, 2 parameters, results some [.t 4]. -/
def ac59 : AC :=
 .seq (.reg []
 [⟨some 4, none, .mov, [.c (.int .i64 0)]⟩])
 (.seq (.reg []
 [⟨some 7, none, .mov, [.t 0]⟩,
 ⟨some 8, none, .call 77, [.t 7]⟩,
 ⟨some 5, none, .mov, [.t 8]⟩])
 (.seq (.reg []
 [⟨some 9, none, .mov, [.t 1]⟩,
 ⟨some 10, none, .call 77, [.t 9]⟩,
 ⟨some 6, none, .mov, [.t 10]⟩])
 (.seq (.seq (.reg []
 [⟨some 11, none, .mov, [.t 5]⟩])
 (.cond (.t 11)
 (.seq (.seq (.reg []
 [⟨some 12, none, .mov, [.t 6]⟩])
 (.cond (.t 12)
 (.seq (.reg []
 [⟨some 4, none, .mov, [.c (.int .i64 0)]⟩])
 .ret)
 .skip))
 (.seq (.reg []
 [⟨some 4, none, .mov, [.c (.int .i64 (-1))]⟩])
 .ret))
 .skip))
 (.seq (.seq (.reg []
 [⟨some 13, none, .mov, [.t 6]⟩])
 (.cond (.t 13)
 (.seq (.reg []
 [⟨some 4, none, .mov, [.c (.int .i64 1)]⟩])
 .ret)
 .skip))
 (.seq (.seq (.reg []
 [⟨some 14, none, .mov, [.t 0]⟩,
 ⟨some 15, none, .mov, [.t 1]⟩,
 ⟨some 16, none, .bin .lss .scal, [.t 14, .t 15]⟩])
 (.cond (.t 16)
 (.seq (.reg []
 [⟨some 4, none, .mov, [.c (.int .i64 (-1))]⟩])
 .ret)
 .skip))
 (.seq (.seq (.reg []
 [⟨some 17, none, .mov, [.t 0]⟩,
 ⟨some 18, none, .mov, [.t 1]⟩,
 ⟨some 19, none, .bin .gtr .scal, [.t 17, .t 18]⟩])
 (.cond (.t 19)
 (.seq (.reg []
 [⟨some 4, none, .mov, [.c (.int .i64 1)]⟩])
 .ret)
 .skip))
 (.seq (.reg []
 [⟨some 4, none, .mov, [.c (.int .i64 0)]⟩])
 .ret)))))))
theorem i59 : fnInfo Try.prog 59 = some (20, [.t 4], ac59) := by kernel_rfl
/-- "crossroads/lsa.old": 6 temporaries, 1 parameters, results some [.t 2]. -/
def ac60 : AC :=
 .seq (.reg []
 [⟨some 1, none, .box, [.t 0]⟩,
 ⟨some 2, none, .mov, [.c (.int .i64 0)]⟩])
 (.seq (.seq (.reg []
 [⟨some 3, none, .fldA 0, [.t 1]⟩,
 ⟨some 4, none, .load none, [.t 3]⟩,
 ⟨some 5, none, .bin .eql .scal, [.t 4, .c (.int .i64 3600)]⟩])
 (.cond (.t 5)
 (.seq (.reg []
 [⟨some 2, none, .mov, [.c (.int .i64 1)]⟩])
 .ret)
 .skip))
 (.seq (.reg []
 [⟨some 2, none, .mov, [.c (.int .i64 0)]⟩])
 .ret))
theorem i60 : fnInfo Try.prog 60 = some (6, [.t 2], ac60) := by kernel_rfl
/-- "crossroads/lsa.younger": 16 temporaries, 2 parameters, results some [.t 4]. -/
def ac61 : AC :=
 .seq (.reg []
 [⟨some 2, none, .box, [.t 0]⟩,
 ⟨some 3, none, .box, [.t 1]⟩,
 ⟨some 4, none, .mov, [.c (.int .i64 0)]⟩])
 (.seq (.seq (.reg []
 [⟨some 5, none, .fldA 0, [.t 2]⟩,
 ⟨some 6, none, .load none, [.t 5]⟩,
 ⟨some 7, none, .fldA 0, [.t 3]⟩,
 ⟨some 8, none, .load none, [.t 7]⟩,
 ⟨some 9, none, .bin .sub .scal, [.t 6, .t 8]⟩,
 ⟨some 10, none, .call 78, [.t 9, .c (.int .i64 (-900)), .c (.int .i64 900)]⟩])
 (.cond (.t 10)
 (.seq (.reg []
 [⟨some 4, none, .mov, [.c (.int .i64 0)]⟩])
 .ret)
 .skip))
 (.seq (.reg []
 [⟨some 11, none, .fldA 0, [.t 3]⟩,
 ⟨some 12, none, .load none, [.t 11]⟩,
 ⟨some 13, none, .fldA 0, [.t 2]⟩,
 ⟨some 14, none, .load none, [.t 13]⟩,
 ⟨some 15, none, .call 59, [.t 12, .t 14]⟩,
 ⟨some 4, none, .mov, [.t 15]⟩])
 .ret))
theorem i61 : fnInfo Try.prog 61 = some (16, [.t 4], ac61) := by kernel_rfl
/-- "crossroads/crossroadsref11.more": 4 temporaries, 1 parameters, results some [.t 2]. -/
def ac62 : AC :=
 .seq (.reg []
 [⟨some 2, none, .mov, [.c (.int .i64 0)]⟩])
 (.seq (.seq (.reg []
 [⟨some 3, none, .mov, [.t 0]⟩])
 (.cond (.t 3)
 (.seq (.reg []
 [⟨some 2, none, .mov, [.c (.int .i64 1)]⟩])
 .ret)
 .skip))
 (.seq (.reg []
 [⟨some 2, none, .mov, [.c (.int .i64 (-1))]⟩])
 .ret))
theorem i62 : fnInfo Try.prog 62 = some (4, [.t 2], ac62) := by kernel_rfl
/-- "(*crossroads/exch.talk).page": 53 temporaries, 1 parameters, results some []. -/
def ac63 : AC :=
 .seq (.reg []
 [⟨some 4, none, .mov, [.t 0]⟩,
 ⟨some 5, none, .nilchk, [.t 4]⟩,
 ⟨some 6, none, .fldA 0, [.t 5]⟩,
 ⟨some 7, none, .fldA 5, [.t 6]⟩,
 ⟨some 8, none, .load none, [.t 7]⟩,
 ⟨some 9, none, .lenL, [.t 8]⟩,
 ⟨some 10, none, .minmax false, [.c (.int .i64 10), .t 9]⟩,
 ⟨some 2, none, .mov, [.t 10]⟩])
 (.seq (.reg [[], [], [1], [2], [3], [4], [5], [0, 6], [], [8], [9], [10], [11], [], [13], [14], [15], [16], [], [18], [19], [20], [21], [], [22, 23], [24], [7, 12, 17, 25], [], [27, 26, 25, 0, 1, 2, 3, 4, 5, 6, 7, 8, 9, 10, 11, 12, 13, 14, 15, 16, 17, 18, 19, 20, 21, 22, 23, 24, 25, 26, 27]]
 [⟨some 11, none, .mov, [.t 2]⟩,
 ⟨some 12, none, .mov, [.t 0]⟩,
 ⟨some 13, none, .nilchk, [.t 12]⟩,
 ⟨some 14, none, .fldA 0, [.t 13]⟩,
 ⟨some 15, none, .fldA 5, [.t 14]⟩,
 ⟨some 16, none, .load none, [.t 15]⟩,
 ⟨some 17, none, .lenL, [.t 16]⟩,
 ⟨some 18, none, .bin .lss .scal, [.t 11, .t 17]⟩,
 ⟨some 19, none, .mov, [.t 0]⟩,
 ⟨some 20, none, .nilchk, [.t 19]⟩,
 ⟨some 21, none, .fldA 0, [.t 20]⟩,
 ⟨some 22, none, .fldA 3, [.t 21]⟩,
 ⟨some 23, none, .load none, [.t 22]⟩,
 ⟨some 24, none, .mov, [.t 0]⟩,
 ⟨some 25, none, .nilchk, [.t 24]⟩,
 ⟨some 26, none, .fldA 0, [.t 25]⟩,
 ⟨some 27, none, .fldA 4, [.t 26]⟩,
 ⟨some 28, none, .load none, [.t 27]⟩,
 ⟨some 29, none, .mov, [.t 0]⟩,
 ⟨some 30, none, .nilchk, [.t 29]⟩,
 ⟨some 31, none, .fldA 0, [.t 30]⟩,
 ⟨some 32, none, .fldA 5, [.t 31]⟩,
 ⟨some 33, none, .load none, [.t 32]⟩,
 ⟨some 34, none, .mov, [.t 2]⟩,
 ⟨some 35, none, .slice 8 false true, [.t 33, .t 34]⟩,
 ⟨some 36, none, .call 27, [.t 35]⟩,
 ⟨some 37, none, .build [.int .i64 0, .int .i64 0, .bool false, .bool false, .bool false, .int .u32 0, .nils] [(0, 1), (1, 1), (3, 1), (4, 1), (5, 1), (6, 1)], [.c (.int .i64 1500), .c (.int .i64 2), .t 18, .t 23, .t 28, .t 36]⟩,
 ⟨some 3, none, .alloc [.int .i64 0, .int .i64 0, .bool false, .bool false, .bool false, .int .u32 0, .nils], []⟩,
 ⟨none, none, .store 7, [.t 3, .t 37]⟩])
 (.seq (.reg []
 [⟨some 38, none, .mov, [.t 0]⟩,
 ⟨some 39, none, .mov, [.t 0]⟩,
 ⟨some 40, none, .nilchk, [.t 39]⟩,
 ⟨some 41, none, .fldA 0, [.t 40]⟩,
 ⟨some 42, none, .fldA 5, [.t 41]⟩,
 ⟨some 43, none, .load none, [.t 42]⟩,
 ⟨some 44, none, .mov, [.t 2]⟩,
 ⟨some 45, none, .slice 8 true false, [.t 43, .t 44]⟩,
 ⟨some 46, none, .call 27, [.t 45]⟩,
 ⟨some 47, none, .nilchk, [.t 38]⟩,
 ⟨some 48, none, .fldA 0, [.t 47]⟩,
 ⟨some 49, none, .fldA 5, [.t 48]⟩,
 ⟨none, none, .store 1, [.t 49, .t 46]⟩])
 (.reg []
 [⟨some 50, none, .mov, [.t 0]⟩,
 ⟨some 51, none, .load (some 7), [.t 3]⟩,
 ⟨some 52, none, .call 65, [.t 50, .t 51]⟩])))
theorem i63 : fnInfo Try.prog 63 = some (53, [], ac63) := by kernel_rfl
/-- "(*crossroads/exch.talk).take": 17 temporaries, 2 parameters, results some []. -/
def ac64 : AC :=
 .seq (.reg []
 [⟨some 3, none, .box, [.t 1]⟩])
 (.reg [[], [], [1], [2], [3], [4], [], [6], [5, 7], [8], [0, 0, 1, 2, 3, 4, 5, 6, 7, 8, 9], [10, 0, 1, 2, 3, 4, 5, 6, 7, 8, 9], [11, 0, 1, 2, 3, 4, 5, 6, 7, 8, 9], [12, 9, 9, 0, 1, 2, 3, 4, 5, 6, 7, 8, 9]]
 [⟨some 4, none, .mov, [.t 0]⟩,
 ⟨some 5, none, .mov, [.t 0]⟩,
 ⟨some 6, none, .nilchk, [.t 5]⟩,
 ⟨some 7, none, .fldA 0, [.t 6]⟩,
 ⟨some 8, none, .fldA 6, [.t 7]⟩,
 ⟨some 9, none, .load none, [.t 8]⟩,
 ⟨some 10, none, .fldA 6, [.t 3]⟩,
 ⟨some 11, none, .load none, [.t 10]⟩,
 ⟨some 12, none, .bslice 1 23, [.t 9, .t 11]⟩,
 ⟨some 13, none, .call 79, [.t 12]⟩,
 ⟨some 14, none, .nilchk, [.t 4]⟩,
 ⟨some 15, none, .fldA 0, [.t 14]⟩,
 ⟨some 16, none, .fldA 6, [.t 15]⟩,
 ⟨none, none, .store 1, [.t 16, .t 13]⟩])
theorem i64 : fnInfo Try.prog 64 = some (17, [], ac64) := by kernel_rfl
/-- "(*crossroads/exch.talk).send": 16 temporaries, 2 parameters, results some []. -/
def ac65 : AC :=
 .seq (.reg []
 [⟨some 3, none, .box, [.t 1]⟩])
 (.reg [[], [], [], [], [], [0, 0, 3], [5, 0, 3], [6, 3, 0, 3], [1, 0, 1, 3, 5, 6, 7], [8, 0, 1, 3, 5, 6, 7], [9, 7, 0, 1, 3, 5, 6, 7], [2, 0, 1, 2, 3, 4, 5, 6, 7, 8, 9, 10], [11, 0, 1, 2, 3, 4, 5, 6, 7, 8, 9, 10], [12, 0, 1, 2, 3, 4, 5, 6, 7, 8, 9, 10], [13, 4, 10, 0, 1, 2, 3, 4, 5, 6, 7, 8, 9, 10]]
 [⟨some 4, none, .mov, [.t 0]⟩,
 ⟨some 5, none, .mov, [.t 0]⟩,
 ⟨some 6, none, .mov, [.t 0]⟩,
 ⟨some 7, none, .load (some 7), [.t 3]⟩,
 ⟨some 8, none, .load (some 7), [.t 3]⟩,
 ⟨some 9, none, .nilchk, [.t 4]⟩,
 ⟨some 10, none, .fldA 14, [.t 9]⟩,
 ⟨none, none, .store 7, [.t 10, .t 7]⟩,
 ⟨some 11, none, .nilchk, [.t 5]⟩,
 ⟨some 12, none, .fldA 21, [.t 11]⟩,
 ⟨none, none, .store 1, [.t 12, .c (.bool true)]⟩,
 ⟨some 13, none, .nilchk, [.t 6]⟩,
 ⟨some 14, none, .fldA 0, [.t 13]⟩,
 ⟨some 15, none, .fldA 7, [.t 14]⟩,
 ⟨none, none, .store 7, [.t 15, .t 8]⟩])
theorem i65 : fnInfo Try.prog 65 = some (16, [], ac65) := by kernel_rfl
/-- "crossroads/crossroadsref11.two": 10 temporaries, 1 parameters, results some [.t 2]. -/
def ac66 : AC :=
 .seq (.reg []
 [⟨some 2, none, .mov, [.c .nils]⟩])
 (.seq (.reg []
 [⟨some 3, none, .mov, [.t 0]⟩,
 ⟨some 4, none, .bin .quo .scal, [.t 3, .c (.int .i64 256)]⟩,
 ⟨some 5, none, .conv .u8, [.t 4]⟩,
 ⟨some 6, none, .mov, [.t 0]⟩,
 ⟨some 7, none, .bin .rem .scal, [.t 6, .c (.int .i64 256)]⟩,
 ⟨some 8, none, .conv .u8, [.t 7]⟩,
 ⟨some 9, none, .bslice 1 5, [.t 5, .t 8]⟩,
 ⟨some 2, none, .mov, [.t 9]⟩])
 .ret)
theorem i66 : fnInfo Try.prog 66 = some (10, [.t 2], ac66) := by kernel_rfl
/-- "crossroads/crossroadsref01.Four": 15 temporaries, 1 parameters, results some [.t 2]. -/
def ac67 : AC :=
 .seq (.reg []
 [⟨some 2, none, .mov, [.c .nils]⟩])
 (.seq (.reg []
 [⟨some 3, none, .mov, [.t 0]⟩,
 ⟨some 4, none, .bin .shr .scal, [.t 3, .c (.int .u64 24)]⟩,
 ⟨some 5, none, .conv .u8, [.t 4]⟩,
 ⟨some 6, none, .mov, [.t 0]⟩,
 ⟨some 7, none, .bin .shr .scal, [.t 6, .c (.int .u64 16)]⟩,
 ⟨some 8, none, .conv .u8, [.t 7]⟩,
 ⟨some 9, none, .mov, [.t 0]⟩,
 ⟨some 10, none, .bin .shr .scal, [.t 9, .c (.int .u64 8)]⟩,
 ⟨some 11, none, .conv .u8, [.t 10]⟩,
 ⟨some 12, none, .mov, [.t 0]⟩,
 ⟨some 13, none, .conv .u8, [.t 12]⟩,
 ⟨some 14, none, .bslice 1 5, [.t 5, .t 8, .t 11, .t 13]⟩,
 ⟨some 2, none, .mov, [.t 14]⟩])
 .ret)
theorem i67 : fnInfo Try.prog 67 = some (15, [.t 2], ac67) := by kernel_rfl
/-- "crossroads/crossroadsref11.May": 56 temporaries, 1 parameters, results some [.t 2]. -/
def ac68 : AC :=
 .seq (.reg []
 [⟨some 1, none, .box, [.t 0]⟩,
 ⟨some 2, none, .mov, [.c (.bool false)]⟩])
 (.seq (.reg []
 [⟨some 3, none, .fldA 0, [.t 1]⟩,
 ⟨some 4, none, .load none, [.t 3]⟩,
 ⟨some 5, none, .bin .geq .scal, [.t 4, .c (.int .i64 0)]⟩,
 ⟨some 6, none, .mov, [.t 5]⟩,
 ⟨some 7, some (6, true), .fldA 0, [.t 1]⟩,
 ⟨some 8, some (6, true), .load none, [.t 7]⟩,
 ⟨some 9, some (6, true), .bin .leq .scal, [.t 8, .c (.int .i64 3600)]⟩,
 ⟨some 10, none, .pick, [.t 6, .t 9, .c (.bool false)]⟩,
 ⟨some 11, none, .mov, [.t 10]⟩,
 ⟨some 12, some (11, true), .fldA 1, [.t 1]⟩,
 ⟨some 13, some (11, true), .load none, [.t 12]⟩,
 ⟨some 14, some (11, true), .bin .geq .scal, [.t 13, .c (.int .i64 0)]⟩,
 ⟨some 15, none, .pick, [.t 11, .t 14, .c (.bool false)]⟩,
 ⟨some 16, none, .mov, [.t 15]⟩,
 ⟨some 17, some (16, true), .fldA 1, [.t 1]⟩,
 ⟨some 18, some (16, true), .load none, [.t 17]⟩,
 ⟨some 19, some (16, true), .bin .leq .scal, [.t 18, .c (.int .i64 255)]⟩,
 ⟨some 20, none, .pick, [.t 16, .t 19, .c (.bool false)]⟩,
 ⟨some 21, none, .mov, [.t 20]⟩,
 ⟨some 22, some (21, true), .fldA 2, [.t 1]⟩,
 ⟨some 23, some (21, true), .load none, [.t 22]⟩,
 ⟨some 24, some (21, true), .bin .geq .scal, [.t 23, .c (.int .i64 1)]⟩,
 ⟨some 25, none, .pick, [.t 21, .t 24, .c (.bool false)]⟩,
 ⟨some 26, none, .mov, [.t 25]⟩,
 ⟨some 27, some (26, true), .fldA 2, [.t 1]⟩,
 ⟨some 28, some (26, true), .load none, [.t 27]⟩,
 ⟨some 29, some (26, true), .bin .leq .scal, [.t 28, .c (.int .i64 7)]⟩,
 ⟨some 30, none, .pick, [.t 26, .t 29, .c (.bool false)]⟩,
 ⟨some 31, none, .mov, [.t 30]⟩,
 ⟨some 32, some (31, true), .fldA 2, [.t 1]⟩,
 ⟨some 33, some (31, true), .load none, [.t 32]⟩,
 ⟨some 34, some (31, true), .bin .neq .scal, [.t 33, .c (.int .i64 6)]⟩,
 ⟨some 35, none, .pick, [.t 31, .t 34, .c (.bool false)]⟩,
 ⟨some 36, none, .mov, [.t 35]⟩,
 ⟨some 37, some (36, true), .fldA 6, [.t 1]⟩,
 ⟨some 38, some (36, true), .load none, [.t 37]⟩,
 ⟨some 39, some (36, true), .bin .geq .scal, [.t 38, .c (.int .i64 0)]⟩,
 ⟨some 40, none, .pick, [.t 36, .t 39, .c (.bool false)]⟩,
 ⟨some 41, none, .mov, [.t 40]⟩,
 ⟨some 42, some (41, true), .fldA 6, [.t 1]⟩,
 ⟨some 43, some (41, true), .load none, [.t 42]⟩,
 ⟨some 44, some (41, true), .bin .leq .scal, [.t 43, .c (.int .i64 65535)]⟩,
 ⟨some 45, none, .pick, [.t 41, .t 44, .c (.bool false)]⟩,
 ⟨some 46, none, .mov, [.t 45]⟩,
 ⟨some 47, some (46, true), .fldA 7, [.t 1]⟩,
 ⟨some 48, some (46, true), .load none, [.t 47]⟩,
 ⟨some 49, some (46, true), .bin .geq .scal, [.t 48, .c (.int .i64 20)]⟩,
 ⟨some 50, none, .pick, [.t 46, .t 49, .c (.bool false)]⟩,
 ⟨some 51, none, .mov, [.t 50]⟩,
 ⟨some 52, some (51, true), .fldA 7, [.t 1]⟩,
 ⟨some 53, some (51, true), .load none, [.t 52]⟩,
 ⟨some 54, some (51, true), .bin .leq .scal, [.t 53, .c (.int .i64 1400)]⟩,
 ⟨some 55, none, .pick, [.t 51, .t 54, .c (.bool false)]⟩,
 ⟨some 2, none, .mov, [.t 55]⟩])
 .ret)
theorem i68 : fnInfo Try.prog 68 = some (56, [.t 2], ac68) := by kernel_rfl
def ac69_1 : AC :=
 .seq (.seq (.reg []
 [⟨some 7, none, .mov, [.t 6]⟩,
 ⟨some 8, none, .mov, [.t 0]⟩,
 ⟨some 9, none, .lenL, [.t 8]⟩,
 ⟨some 10, none, .bin .lss .scal, [.t 7, .t 9]⟩])
 (.cond (.t 10)
 .skip
 (.exit 0)))
 (.seq (.block 1 (.seq (.reg []
 [⟨some 13, none, .mov, [.t 4]⟩,
 ⟨some 14, none, .mov, [.t 0]⟩,
 ⟨some 15, none, .mov, [.t 6]⟩,
 ⟨some 16, none, .idxA 1, [.t 14, .t 15]⟩,
 ⟨some 17, none, .load none, [.t 16]⟩,
 ⟨some 18, none, .conv .i64, [.t 17]⟩,
 ⟨some 19, none, .bin .add .scal, [.t 13, .t 18]⟩,
 ⟨some 20, none, .bin .rem .scal, [.t 19, .c (.int .i64 255)]⟩,
 ⟨some 4, none, .mov, [.t 20]⟩])
 (.reg []
 [⟨some 21, none, .mov, [.t 5]⟩,
 ⟨some 22, none, .mov, [.t 4]⟩,
 ⟨some 23, none, .bin .add .scal, [.t 21, .t 22]⟩,
 ⟨some 24, none, .bin .rem .scal, [.t 23, .c (.int .i64 255)]⟩,
 ⟨some 5, none, .mov, [.t 24]⟩])))
 (.reg []
 [⟨some 11, none, .mov, [.t 6]⟩,
 ⟨some 12, none, .bin .add .scal, [.t 11, .c (.int .i64 1)]⟩,
 ⟨some 6, none, .mov, [.t 12]⟩]))
/-- "crossroads/crossroadsref02.Pair": 27 temporaries, 1 parameters, results some [.t 2, .t 3]. -/
def ac69 : AC :=
 .seq (.reg []
 [⟨some 2, none, .mov, [.c (.int .i64 0)]⟩,
 ⟨some 3, none, .mov, [.c (.int .i64 0)]⟩])
 (.seq (.reg []
 [⟨some 4, none, .mov, [.c (.int .i64 0)]⟩,
 ⟨some 5, none, .mov, [.c (.int .i64 0)]⟩])
 (.seq (.seq (.reg []
 [⟨some 6, none, .mov, [.c (.int .i64 0)]⟩])
 (.block 0 (.loop ac69_1)))
 (.seq (.reg []
 [⟨some 25, none, .mov, [.t 4]⟩,
 ⟨some 26, none, .mov, [.t 5]⟩,
 ⟨some 2, none, .mov, [.t 25]⟩,
 ⟨some 3, none, .mov, [.t 26]⟩])
 .ret)))
theorem i69 : fnInfo Try.prog 69 = some (27, [.t 2, .t 3], ac69) := by kernel_rfl
def ac70_1 : AC :=
 .seq (.seq (.reg []
 [⟨some 17, none, .mov, [.t 0]⟩,
 ⟨some 18, none, .lenL, [.t 17]⟩,
 ⟨some 19, none, .bin .gtr .scal, [.t 18, .c (.int .i64 0)]⟩])
 (.cond (.t 19)
 .skip
 (.exit 0)))
 (.block 1 (.seq (.reg []
 [⟨some 21, none, .mov, [.t 0]⟩,
 ⟨some 22, none, .mov, [.t 1]⟩,
 ⟨some 23, none, .call 80, [.t 21, .t 22]⟩,
 ⟨some 20, none, .mov, [.t 23]⟩,
 ⟨some 24, none, .ext 0, [.t 20]⟩,
 ⟨some 25, none, .ext 1, [.t 20]⟩,
 ⟨some 26, none, .ext 2, [.t 20]⟩,
 ⟨some 7, none, .mov, [.t 24]⟩,
 ⟨some 8, none, .mov, [.t 25]⟩,
 ⟨some 9, none, .mov, [.t 26]⟩])
 (.seq (.seq (.reg []
 [⟨some 27, none, .mov, [.t 9]⟩,
 ⟨some 28, none, .bin .neq .scal, [.t 27, .c (.int .i64 0)]⟩])
 (.cond (.t 28)
 (.seq (.reg []
 [⟨some 29, none, .mov, [.t 9]⟩,
 ⟨some 4, none, .mov, [.c .nils]⟩,
 ⟨some 5, none, .mov, [.t 29]⟩])
 .ret)
 .skip))
 (.seq (.reg []
 [⟨some 30, none, .mov, [.t 6]⟩,
 ⟨some 31, none, .mov, [.t 7]⟩,
 ⟨some 32, none, .bslice 1 22, [.t 31]⟩,
 ⟨some 33, none, .append 1 22 4, [.t 30, .t 32]⟩,
 ⟨some 6, none, .mov, [.t 33]⟩])
 (.reg []
 [⟨some 34, none, .mov, [.t 8]⟩,
 ⟨some 0, none, .mov, [.t 34]⟩])))))
/-- "crossroads/crossroadsref01.Rows": 36 temporaries, 2 parameters, results some [.t 4, .t 5]. -/
def ac70 : AC :=
 .seq (.reg []
 [⟨some 4, none, .mov, [.c .nils]⟩,
 ⟨some 5, none, .mov, [.c (.int .i64 0)]⟩])
 (.seq (.seq (.reg []
 [⟨some 10, none, .mov, [.t 1]⟩,
 ⟨some 11, none, .bin .lss .scal, [.t 10, .c (.int .i64 1)]⟩,
 ⟨some 12, none, .mov, [.t 11]⟩,
 ⟨some 13, some (12, false), .mov, [.t 1]⟩,
 ⟨some 14, some (12, false), .bin .gtr .scal, [.t 13, .c (.int .i64 4)]⟩,
 ⟨some 15, none, .pick, [.t 12, .c (.bool true), .t 14]⟩])
 (.cond (.t 15)
 (.seq (.reg []
 [⟨some 4, none, .mov, [.c .nils]⟩,
 ⟨some 5, none, .mov, [.c (.int .i64 1)]⟩])
 .ret)
 .skip))
 (.seq (.reg []
 [⟨some 16, none, .bslice 1 22, []⟩,
 ⟨some 6, none, .mov, [.t 16]⟩])
 (.seq (.block 0 (.loop ac70_1))
 (.seq (.reg []
 [⟨some 35, none, .mov, [.t 6]⟩,
 ⟨some 4, none, .mov, [.t 35]⟩,
 ⟨some 5, none, .mov, [.c (.int .i64 0)]⟩])
 .ret))))
theorem i70 : fnInfo Try.prog 70 = some (36, [.t 4, .t 5], ac70) := by kernel_rfl
def ac71_1 : AC :=
 .seq (.seq (.reg []
 [⟨some 19, none, .mov, [.t 3]⟩,
 ⟨some 20, none, .fldA 1, [.t 1]⟩,
 ⟨some 21, none, .load none, [.t 20]⟩,
 ⟨some 22, none, .lenL, [.t 21]⟩,
 ⟨some 23, none, .bin .lss .scal, [.t 19, .t 22]⟩])
 (.cond (.t 23)
 .skip
 (.exit 0)))
 (.seq (.block 1 (.seq (.reg []
 [⟨some 26, none, .fldA 1, [.t 1]⟩,
 ⟨some 27, none, .load none, [.t 26]⟩,
 ⟨some 28, none, .mov, [.t 3]⟩,
 ⟨some 29, none, .idxA 4, [.t 27, .t 28]⟩,
 ⟨some 30, none, .load (some 4), [.t 29]⟩,
 ⟨some 4, none, .alloc [.int .i64 0, .int .u32 0, .int .u32 0, .int .i64 0], []⟩,
 ⟨none, none, .store 4, [.t 4, .t 30]⟩])
 (.seq (.reg []
 [⟨some 31, none, .fldA 0, [.t 4]⟩,
 ⟨some 32, none, .load none, [.t 31]⟩,
 ⟨some 33, none, .bin .lss .scal, [.t 32, .c (.int .i64 1)]⟩,
 ⟨some 34, none, .mov, [.t 33]⟩,
 ⟨some 35, some (34, false), .fldA 0, [.t 4]⟩,
 ⟨some 36, some (34, false), .load none, [.t 35]⟩,
 ⟨some 37, some (34, false), .bin .gtr .scal, [.t 36, .c (.int .i64 4)]⟩,
 ⟨some 38, none, .pick, [.t 34, .c (.bool true), .t 37]⟩,
 ⟨some 39, none, .mov, [.t 38]⟩,
 ⟨some 40, some (39, false), .fldA 3, [.t 4]⟩,
 ⟨some 41, some (39, false), .load none, [.t 40]⟩,
 ⟨some 42, some (39, false), .bin .lss .scal, [.t 41, .c (.int .i64 0)]⟩,
 ⟨some 43, none, .pick, [.t 39, .c (.bool true), .t 42]⟩,
 ⟨some 44, none, .mov, [.t 43]⟩,
 ⟨some 45, some (44, false), .fldA 3, [.t 4]⟩,
 ⟨some 46, some (44, false), .load none, [.t 45]⟩,
 ⟨some 47, some (44, false), .bin .gtr .scal, [.t 46, .c (.int .i64 65535)]⟩,
 ⟨some 48, none, .pick, [.t 44, .c (.bool true), .t 47]⟩])
 (.cond (.t 48)
 (.seq (.reg []
 [⟨some 2, none, .mov, [.c (.bool false)]⟩])
 .ret)
 .skip))))
 (.reg []
 [⟨some 24, none, .mov, [.t 3]⟩,
 ⟨some 25, none, .bin .add .scal, [.t 24, .c (.int .i64 1)]⟩,
 ⟨some 3, none, .mov, [.t 25]⟩]))
/-- "crossroads/crossroadsref12.MayRouter": 49 temporaries, 1 parameters, results some [.t 2]. -/
def ac71 : AC :=
 .seq (.reg []
 [⟨some 1, none, .box, [.t 0]⟩,
 ⟨some 2, none, .mov, [.c (.bool false)]⟩])
 (.seq (.seq (.reg []
 [⟨some 5, none, .fldA 0, [.t 1]⟩,
 ⟨some 6, none, .load none, [.t 5]⟩,
 ⟨some 7, none, .bin .lss .scal, [.t 6, .c (.int .i64 0)]⟩,
 ⟨some 8, none, .mov, [.t 7]⟩,
 ⟨some 9, some (8, false), .fldA 0, [.t 1]⟩,
 ⟨some 10, some (8, false), .load none, [.t 9]⟩,
 ⟨some 11, some (8, false), .bin .gtr .scal, [.t 10, .c (.int .i64 31)]⟩,
 ⟨some 12, none, .pick, [.t 8, .c (.bool true), .t 11]⟩,
 ⟨some 13, none, .mov, [.t 12]⟩,
 ⟨some 14, some (13, false), .fldA 1, [.t 1]⟩,
 ⟨some 15, some (13, false), .load none, [.t 14]⟩,
 ⟨some 16, some (13, false), .lenL, [.t 15]⟩,
 ⟨some 17, some (13, false), .bin .gtr .scal, [.t 16, .c (.int .i64 100)]⟩,
 ⟨some 18, none, .pick, [.t 13, .c (.bool true), .t 17]⟩])
 (.cond (.t 18)
 (.seq (.reg []
 [⟨some 2, none, .mov, [.c (.bool false)]⟩])
 .ret)
 .skip))
 (.seq (.seq (.reg []
 [⟨some 3, none, .mov, [.c (.int .i64 0)]⟩])
 (.block 0 (.loop ac71_1)))
 (.seq (.reg []
 [⟨some 2, none, .mov, [.c (.bool true)]⟩])
 .ret)))
theorem i71 : fnInfo Try.prog 71 = some (49, [.t 2], ac71) := by kernel_rfl
/-- "crossroads/crossroadsref12.isMask": 12 temporaries, 1 parameters, results some [.t 2]. -/
def ac72 : AC :=
 .seq (.reg []
 [⟨some 2, none, .mov, [.c (.bool false)]⟩])
 (.seq (.reg []
 [⟨some 6, none, .mov, [.t 0]⟩,
 ⟨some 7, none, .call 81, [.t 6]⟩,
 ⟨some 5, none, .mov, [.t 7]⟩,
 ⟨some 8, none, .ext 0, [.t 5]⟩,
 ⟨some 9, none, .ext 1, [.t 5]⟩,
 ⟨some 3, none, .mov, [.t 8]⟩,
 ⟨some 4, none, .mov, [.t 9]⟩])
 (.seq (.reg []
 [⟨some 10, none, .mov, [.t 4]⟩,
 ⟨some 11, none, .bin .eql .scal, [.t 10, .c (.int .i64 0)]⟩,
 ⟨some 2, none, .mov, [.t 11]⟩])
 .ret))
theorem i72 : fnInfo Try.prog 72 = some (12, [.t 2], ac72) := by kernel_rfl
def ac73_1 : AC :=
 .seq (.seq (.reg []
 [⟨some 15, none, .mov, [.t 9]⟩,
 ⟨some 16, none, .mov, [.t 10]⟩,
 ⟨some 17, none, .bin .lss .scal, [.t 15, .t 16]⟩])
 (.cond (.t 17)
 .skip
 (.exit 0)))
 (.block 1 (.seq (.reg []
 [⟨some 18, none, .mov, [.t 9]⟩,
 ⟨some 19, none, .mov, [.t 10]⟩,
 ⟨some 20, none, .bin .add .scal, [.t 18, .t 19]⟩,
 ⟨some 21, none, .conv .u64, [.t 20]⟩,
 ⟨some 22, none, .bin .shr .scal, [.t 21, .c (.int .u64 1)]⟩,
 ⟨some 23, none, .conv .i64, [.t 22]⟩,
 ⟨some 11, none, .mov, [.t 23]⟩])
 (.seq (.reg [[], [], [], [1, 2], [3], [], [0, 4, 5], [6]]
 [⟨some 24, none, .mov, [.t 2]⟩,
 ⟨some 25, none, .mov, [.t 0]⟩,
 ⟨some 26, none, .mov, [.t 11]⟩,
 ⟨some 27, none, .idxA 9, [.t 25, .t 26]⟩,
 ⟨some 28, none, .load (some 9), [.t 27]⟩,
 ⟨some 29, none, .load (some 3), [.t 4]⟩,
 ⟨some 30, none, .callv, [.t 24, .t 28, .t 29]⟩,
 ⟨some 31, none, .bin .lss .scal, [.t 30, .c (.int .i64 0)]⟩])
 (.cond (.t 31)
 (.reg []
 [⟨some 32, none, .mov, [.t 11]⟩,
 ⟨some 33, none, .bin .add .scal, [.t 32, .c (.int .i64 1)]⟩,
 ⟨some 9, none, .mov, [.t 33]⟩])
 (.reg []
 [⟨some 34, none, .mov, [.t 11]⟩,
 ⟨some 10, none, .mov, [.t 34]⟩])))))
/-- "slices.BinarySearchFunc[[]crossroads/api.Ad,crossroads/api.Ad,crossroads/api.Key]": 49 temporaries, 3 parameters, results some [.t 6, .t 7]. -/
def ac73 : AC :=
 .seq (.reg []
 [⟨some 4, none, .box, [.t 1]⟩,
 ⟨some 6, none, .mov, [.c (.int .i64 0)]⟩,
 ⟨some 7, none, .mov, [.c (.bool false)]⟩])
 (.seq (.reg []
 [⟨some 12, none, .mov, [.t 0]⟩,
 ⟨some 13, none, .lenL, [.t 12]⟩,
 ⟨some 8, none, .mov, [.t 13]⟩])
 (.seq (.reg []
 [⟨some 14, none, .mov, [.t 8]⟩,
 ⟨some 9, none, .mov, [.c (.int .i64 0)]⟩,
 ⟨some 10, none, .mov, [.t 14]⟩])
 (.seq (.block 0 (.loop ac73_1))
 (.seq (.reg [[], [], [], [1, 2], [3], [4], [4], [4], [6, 7, 4], [8, 4], [4], [5, 9, 10, 4, 4], [11, 4], [4, 12], [0, 11, 0], [13, 14, 0, 1, 2, 3, 4, 5, 6, 7, 8, 9, 10, 11, 12, 13, 14]]
 [⟨some 35, none, .mov, [.t 9]⟩,
 ⟨some 36, none, .mov, [.t 9]⟩,
 ⟨some 37, none, .mov, [.t 8]⟩,
 ⟨some 38, none, .bin .lss .scal, [.t 36, .t 37]⟩,
 ⟨some 39, none, .mov, [.t 38]⟩,
 ⟨some 40, some (39, true), .mov, [.t 2]⟩,
 ⟨some 41, some (39, true), .mov, [.t 0]⟩,
 ⟨some 42, some (39, true), .mov, [.t 9]⟩,
 ⟨some 43, some (39, true), .idxA 9, [.t 41, .t 42]⟩,
 ⟨some 44, some (39, true), .load (some 9), [.t 43]⟩,
 ⟨some 45, some (39, true), .load (some 3), [.t 4]⟩,
 ⟨some 46, some (39, true), .callv, [.t 40, .t 44, .t 45]⟩,
 ⟨some 47, some (39, true), .bin .eql .scal, [.t 46, .c (.int .i64 0)]⟩,
 ⟨some 48, none, .pick, [.t 39, .t 47, .c (.bool false)]⟩,
 ⟨some 6, none, .mov, [.t 35]⟩,
 ⟨some 7, none, .mov, [.t 48]⟩])
 .ret))))
theorem i73 : fnInfo Try.prog 73 = some (49, [.t 6, .t 7], ac73) := by kernel_rfl
/-- "(crossroads/store.Store).at$1": 17 temporaries, 2 parameters, results some [.t 4]. -/
def ac74 : AC :=
 .seq (.reg []
 [⟨some 2, none, .box, [.t 0]⟩,
 ⟨some 3, none, .box, [.t 1]⟩,
 ⟨some 4, none, .mov, [.c (.int .i64 0)]⟩])
 (.seq (.reg []
 [⟨some 6, none, .fldA 0, [.t 2]⟩,
 ⟨some 7, none, .load (some 8), [.t 6]⟩,
 ⟨some 8, none, .call 40, [.t 7]⟩,
 ⟨some 5, none, .alloc [.int .i64 0, .int .u32 0, .int .u32 0], []⟩,
 ⟨none, none, .store 3, [.t 5, .t 8]⟩])
 (.seq (.block 0 (.seq (.reg []
 [⟨some 10, none, .load (some 3), [.t 5]⟩,
 ⟨some 11, none, .load (some 3), [.t 3]⟩,
 ⟨some 12, none, .call 75, [.t 10, .t 11]⟩,
 ⟨some 9, none, .mov, [.t 12]⟩])
 (.cond (.t 9)
 (.seq (.reg []
 [⟨some 4, none, .mov, [.c (.int .i64 (-1))]⟩])
 .ret)
 (.seq (.reg []
 [⟨some 14, none, .load (some 3), [.t 3]⟩,
 ⟨some 15, none, .load (some 3), [.t 5]⟩,
 ⟨some 16, none, .call 75, [.t 14, .t 15]⟩,
 ⟨some 13, none, .mov, [.t 16]⟩])
 (.cond (.t 13)
 (.seq (.reg []
 [⟨some 4, none, .mov, [.c (.int .i64 1)]⟩])
 .ret)
 .skip)))))
 (.seq (.reg []
 [⟨some 4, none, .mov, [.c (.int .i64 0)]⟩])
 .ret)))
theorem i74 : fnInfo Try.prog 74 = some (17, [.t 4], ac74) := by kernel_rfl
/-- "crossroads/lsa.Less": 23 temporaries, 2 parameters, results some [.t 4]. -/
def ac75 : AC :=
 .seq (.reg []
 [⟨some 2, none, .box, [.t 0]⟩,
 ⟨some 3, none, .box, [.t 1]⟩,
 ⟨some 4, none, .mov, [.c (.bool false)]⟩])
 (.seq (.reg [[], [0], [], [2], [1, 3], [], [5], [], [7], [6, 8, 4], [], [10], [], [12], [11, 13, 9], [4, 9, 14], [15, 14], [16], [17, 16, 0, 1, 2, 3, 4, 5, 6, 7, 8, 9, 10, 11, 12, 13, 14, 15, 16, 17]]
 [⟨some 5, none, .fldA 0, [.t 2]⟩,
 ⟨some 6, none, .load none, [.t 5]⟩,
 ⟨some 7, none, .fldA 0, [.t 3]⟩,
 ⟨some 8, none, .load none, [.t 7]⟩,
 ⟨some 9, none, .call 59, [.t 6, .t 8]⟩,
 ⟨some 10, none, .fldA 1, [.t 2]⟩,
 ⟨some 11, none, .load none, [.t 10]⟩,
 ⟨some 12, none, .fldA 1, [.t 3]⟩,
 ⟨some 13, none, .load none, [.t 12]⟩,
 ⟨some 14, none, .call 82, [.t 11, .t 13]⟩,
 ⟨some 15, none, .fldA 2, [.t 2]⟩,
 ⟨some 16, none, .load none, [.t 15]⟩,
 ⟨some 17, none, .fldA 2, [.t 3]⟩,
 ⟨some 18, none, .load none, [.t 17]⟩,
 ⟨some 19, none, .call 82, [.t 16, .t 18]⟩,
 ⟨some 20, none, .bslice 1 3, [.t 9, .t 14, .t 19]⟩,
 ⟨some 21, none, .call 57, [.t 20]⟩,
 ⟨some 22, none, .bin .lss .scal, [.t 21, .c (.int .i64 0)]⟩,
 ⟨some 4, none, .mov, [.t 22]⟩])
 .ret)
theorem i75 : fnInfo Try.prog 75 = some (23, [.t 4], ac75) := by kernel_rfl
/-- "cmp.isNaN[int32]": 6 temporaries, 1 parameters, results some [.t 2]. -/
def ac76 : AC :=
 .seq (.reg []
 [⟨some 2, none, .mov, [.c (.bool false)]⟩])
 (.seq (.reg []
 [⟨some 3, none, .mov, [.t 0]⟩,
 ⟨some 4, none, .mov, [.t 0]⟩,
 ⟨some 5, none, .bin .neq .scal, [.t 3, .t 4]⟩,
 ⟨some 2, none, .mov, [.t 5]⟩])
 .ret)
theorem i76 : fnInfo Try.prog 76 = some (6, [.t 2], ac76) := by kernel_rfl
/-- "cmp.isNaN[int]": 6 temporaries, 1 parameters, results some [.t 2]. -/
def ac77 : AC :=
 .seq (.reg []
 [⟨some 2, none, .mov, [.c (.bool false)]⟩])
 (.seq (.reg []
 [⟨some 3, none, .mov, [.t 0]⟩,
 ⟨some 4, none, .mov, [.t 0]⟩,
 ⟨some 5, none, .bin .neq .scal, [.t 3, .t 4]⟩,
 ⟨some 2, none, .mov, [.t 5]⟩])
 .ret)
theorem i77 : fnInfo Try.prog 77 = some (6, [.t 2], ac77) := by kernel_rfl
/-- "crossroads/lsa.isIn": 15 temporaries, 3 parameters, results some [.t 6]. -/
def ac78 : AC :=
 .seq (.reg []
 [⟨some 6, none, .mov, [.c (.bool false)]⟩])
 (.seq (.reg []
 [⟨some 7, none, .mov, [.t 1]⟩,
 ⟨some 8, none, .mov, [.t 0]⟩,
 ⟨some 9, none, .bin .leq .scal, [.t 7, .t 8]⟩,
 ⟨some 10, none, .mov, [.t 9]⟩,
 ⟨some 11, some (10, true), .mov, [.t 0]⟩,
 ⟨some 12, some (10, true), .mov, [.t 2]⟩,
 ⟨some 13, some (10, true), .bin .leq .scal, [.t 11, .t 12]⟩,
 ⟨some 14, none, .pick, [.t 10, .t 13, .c (.bool false)]⟩,
 ⟨some 6, none, .mov, [.t 14]⟩])
 .ret)
theorem i78 : fnInfo Try.prog 78 = some (15, [.t 6], ac78) := by kernel_rfl
def ac79_1 : AC :=
 .seq (.reg []
 [⟨some 12, none, .bin .lss .scal, [.t 11, .t 10]⟩])
 (.seq (.cond (.t 12)
 .skip
 (.exit 0))
 (.seq (.block 1 (.seq (.reg []
 [⟨some 13, none, .idxA 1, [.t 9, .t 11]⟩,
 ⟨some 14, none, .load none, [.t 13]⟩,
 ⟨some 5, none, .mov, [.t 14]⟩])
 (.seq (.reg []
 [⟨some 15, none, .mov, [.t 3]⟩,
 ⟨some 16, none, .mov, [.t 5]⟩,
 ⟨some 17, none, .lenL, [.t 16]⟩,
 ⟨some 18, none, .bin .add .scal, [.t 15, .t 17]⟩,
 ⟨some 3, none, .mov, [.t 18]⟩])
 (.seq (.reg []
 [⟨some 19, none, .mov, [.t 3]⟩,
 ⟨some 20, none, .bin .lss .scal, [.t 19, .c (.int .i64 0)]⟩])
 (.cond (.t 20)
 (.reg []
 [⟨some 21, none, .mkif 9, [.c (.str (bstr [108, 101, 110, 32, 111, 117, 116, 32, 111, 102, 32, 114, 97, 110, 103, 101]))]⟩,
 ⟨none, none, .bad, []⟩])
 .skip)))))
 (.reg []
 [⟨some 22, none, .bin .add .scal, [.t 11, .c (.int .i64 1)]⟩,
 ⟨some 11, none, .mov, [.t 22]⟩])))
def ac79_2 : AC :=
 .seq (.reg []
 [⟨some 28, none, .bin .lss .scal, [.t 27, .t 26]⟩])
 (.seq (.cond (.t 28)
 .skip
 (.exit 2))
 (.seq (.block 3 (.seq (.reg []
 [⟨some 29, none, .idxA 1, [.t 25, .t 27]⟩,
 ⟨some 30, none, .load none, [.t 29]⟩,
 ⟨some 8, none, .mov, [.t 30]⟩])
 (.reg []
 [⟨some 31, none, .mov, [.t 6]⟩,
 ⟨some 32, none, .mov, [.t 8]⟩,
 ⟨some 33, none, .append 8 67 56, [.t 31, .t 32]⟩,
 ⟨some 6, none, .mov, [.t 33]⟩])))
 (.reg []
 [⟨some 34, none, .bin .add .scal, [.t 27, .c (.int .i64 1)]⟩,
 ⟨some 27, none, .mov, [.t 34]⟩])))
/-- "slices.Concat[[]crossroads/api.Header,crossroads/api.Header]": 36 temporaries, 1 parameters, results some [.t 2]. -/
def ac79 : AC :=
 .seq (.reg []
 [⟨some 2, none, .mov, [.c .nils]⟩])
 (.seq (.reg []
 [⟨some 3, none, .mov, [.c (.int .i64 0)]⟩])
 (.seq (.seq (.reg []
 [⟨some 9, none, .mov, [.t 0]⟩,
 ⟨some 10, none, .lenL, [.t 9]⟩,
 ⟨some 11, none, .mov, [.c (.int .i64 0)]⟩])
 (.block 0 (.loop ac79_1)))
 (.seq (.reg []
 [⟨some 23, none, .mov, [.t 3]⟩,
 ⟨some 24, none, .call 83, [.c .nils, .t 23]⟩,
 ⟨some 6, none, .mov, [.t 24]⟩])
 (.seq (.seq (.reg []
 [⟨some 25, none, .mov, [.t 0]⟩,
 ⟨some 26, none, .lenL, [.t 25]⟩,
 ⟨some 27, none, .mov, [.c (.int .i64 0)]⟩])
 (.block 2 (.loop ac79_2)))
 (.seq (.reg []
 [⟨some 35, none, .mov, [.t 6]⟩,
 ⟨some 2, none, .mov, [.t 35]⟩])
 .ret)))))
theorem i79 : fnInfo Try.prog 79 = some (36, [.t 2], ac79) := by kernel_rfl
def ac80_1 : AC :=
 .seq (.seq (.reg []
 [⟨some 19, none, .mov, [.t 8]⟩,
 ⟨some 20, none, .mov, [.t 1]⟩,
 ⟨some 21, none, .bin .lss .scal, [.t 19, .t 20]⟩])
 (.cond (.t 21)
 .skip
 (.exit 0)))
 (.seq (.block 1 (.reg []
 [⟨some 24, none, .mov, [.t 7]⟩,
 ⟨some 25, none, .bin .mul .scal, [.t 24, .c (.int .u32 256)]⟩,
 ⟨some 26, none, .mov, [.t 0]⟩,
 ⟨some 27, none, .mov, [.t 8]⟩,
 ⟨some 28, none, .idxA 1, [.t 26, .t 27]⟩,
 ⟨some 29, none, .load none, [.t 28]⟩,
 ⟨some 30, none, .conv .u32, [.t 29]⟩,
 ⟨some 31, none, .bin .add .scal, [.t 25, .t 30]⟩,
 ⟨some 7, none, .mov, [.t 31]⟩]))
 (.reg []
 [⟨some 22, none, .mov, [.t 8]⟩,
 ⟨some 23, none, .bin .add .scal, [.t 22, .c (.int .i64 1)]⟩,
 ⟨some 8, none, .mov, [.t 23]⟩]))
/-- "crossroads/crossroadsref01.Take": 38 temporaries, 2 parameters, results some [.t 4, .t 5, .t 6]. -/
def ac80 : AC :=
 .seq (.reg []
 [⟨some 4, none, .mov, [.c (.int .u32 0)]⟩,
 ⟨some 5, none, .mov, [.c .nils]⟩,
 ⟨some 6, none, .mov, [.c (.int .i64 0)]⟩])
 (.seq (.seq (.reg []
 [⟨some 9, none, .mov, [.t 1]⟩,
 ⟨some 10, none, .bin .lss .scal, [.t 9, .c (.int .i64 1)]⟩,
 ⟨some 11, none, .mov, [.t 10]⟩,
 ⟨some 12, some (11, false), .mov, [.t 1]⟩,
 ⟨some 13, some (11, false), .bin .gtr .scal, [.t 12, .c (.int .i64 4)]⟩,
 ⟨some 14, none, .pick, [.t 11, .c (.bool true), .t 13]⟩])
 (.cond (.t 14)
 (.seq (.reg []
 [⟨some 4, none, .mov, [.c (.int .u32 0)]⟩,
 ⟨some 5, none, .mov, [.c .nils]⟩,
 ⟨some 6, none, .mov, [.c (.int .i64 1)]⟩])
 .ret)
 .skip))
 (.seq (.seq (.reg []
 [⟨some 15, none, .mov, [.t 0]⟩,
 ⟨some 16, none, .lenL, [.t 15]⟩,
 ⟨some 17, none, .mov, [.t 1]⟩,
 ⟨some 18, none, .bin .lss .scal, [.t 16, .t 17]⟩])
 (.cond (.t 18)
 (.seq (.reg []
 [⟨some 4, none, .mov, [.c (.int .u32 0)]⟩,
 ⟨some 5, none, .mov, [.c .nils]⟩,
 ⟨some 6, none, .mov, [.c (.int .i64 2)]⟩])
 .ret)
 .skip))
 (.seq (.reg []
 [⟨some 7, none, .mov, [.c (.int .u32 0)]⟩])
 (.seq (.seq (.reg []
 [⟨some 8, none, .mov, [.c (.int .i64 0)]⟩])
 (.block 0 (.loop ac80_1)))
 (.seq (.reg []
 [⟨some 32, none, .mov, [.t 7]⟩,
 ⟨some 33, none, .bslice 1 5, []⟩,
 ⟨some 34, none, .mov, [.t 0]⟩,
 ⟨some 35, none, .mov, [.t 1]⟩,
 ⟨some 36, none, .slice 1 true false, [.t 34, .t 35]⟩,
 ⟨some 37, none, .append 1 5 1, [.t 33, .t 36]⟩,
 ⟨some 4, none, .mov, [.t 32]⟩,
 ⟨some 5, none, .mov, [.t 37]⟩,
 ⟨some 6, none, .mov, [.c (.int .i64 0)]⟩])
 .ret)))))
theorem i80 : fnInfo Try.prog 80 = some (38, [.t 4, .t 5, .t 6], ac80) := by kernel_rfl
def ac81_1 : AC :=
 .seq (.seq (.reg []
 [⟨some 5, none, .mov, [.t 4]⟩,
 ⟨some 6, none, .bin .leq .scal, [.t 5, .c (.int .i64 32)]⟩])
 (.cond (.t 6)
 .skip
 (.exit 0)))
 (.seq (.block 1 (.seq (.reg []
 [⟨some 9, none, .mov, [.t 4]⟩,
 ⟨some 10, none, .call 84, [.t 9]⟩,
 ⟨some 11, none, .mov, [.t 0]⟩,
 ⟨some 12, none, .bin .eql .scal, [.t 10, .t 11]⟩])
 (.cond (.t 12)
 (.seq (.reg []
 [⟨some 13, none, .mov, [.t 4]⟩,
 ⟨some 2, none, .mov, [.t 13]⟩,
 ⟨some 3, none, .mov, [.c (.int .i64 0)]⟩])
 .ret)
 .skip)))
 (.reg []
 [⟨some 7, none, .mov, [.t 4]⟩,
 ⟨some 8, none, .bin .add .scal, [.t 7, .c (.int .i64 1)]⟩,
 ⟨some 4, none, .mov, [.t 8]⟩]))
/-- "crossroads/crossroadsref03.Long": 14 temporaries, 1 parameters, results some [.t 2, .t 3]. -/
def ac81 : AC :=
 .seq (.reg []
 [⟨some 2, none, .mov, [.c (.int .i64 0)]⟩,
 ⟨some 3, none, .mov, [.c (.int .i64 0)]⟩])
 (.seq (.seq (.reg []
 [⟨some 4, none, .mov, [.c (.int .i64 0)]⟩])
 (.block 0 (.loop ac81_1)))
 (.seq (.reg []
 [⟨some 2, none, .mov, [.c (.int .i64 0)]⟩,
 ⟨some 3, none, .mov, [.c (.int .i64 3)]⟩])
 .ret))
theorem i81 : fnInfo Try.prog 81 = some (14, [.t 2, .t 3], ac81) := by kernel_rfl
/-- "cmp.Compare[uint32]": 20 temporaries, 2 parameters, results some [.t 4]. -/
def ac82 : AC :=
 .seq (.reg []
 [⟨some 4, none, .mov, [.c (.int .i64 0)]⟩])
 (.seq (.reg []
 [⟨some 7, none, .mov, [.t 0]⟩,
 ⟨some 8, none, .call 85, [.t 7]⟩,
 ⟨some 5, none, .mov, [.t 8]⟩])
 (.seq (.reg []
 [⟨some 9, none, .mov, [.t 1]⟩,
 ⟨some 10, none, .call 85, [.t 9]⟩,
 ⟨some 6, none, .mov, [.t 10]⟩])
 (.seq (.seq (.reg []
 [⟨some 11, none, .mov, [.t 5]⟩])
 (.cond (.t 11)
 (.seq (.seq (.reg []
 [⟨some 12, none, .mov, [.t 6]⟩])
 (.cond (.t 12)
 (.seq (.reg []
 [⟨some 4, none, .mov, [.c (.int .i64 0)]⟩])
 .ret)
 .skip))
 (.seq (.reg []
 [⟨some 4, none, .mov, [.c (.int .i64 (-1))]⟩])
 .ret))
 .skip))
 (.seq (.seq (.reg []
 [⟨some 13, none, .mov, [.t 6]⟩])
 (.cond (.t 13)
 (.seq (.reg []
 [⟨some 4, none, .mov, [.c (.int .i64 1)]⟩])
 .ret)
 .skip))
 (.seq (.seq (.reg []
 [⟨some 14, none, .mov, [.t 0]⟩,
 ⟨some 15, none, .mov, [.t 1]⟩,
 ⟨some 16, none, .bin .lss .scal, [.t 14, .t 15]⟩])
 (.cond (.t 16)
 (.seq (.reg []
 [⟨some 4, none, .mov, [.c (.int .i64 (-1))]⟩])
 .ret)
 .skip))
 (.seq (.seq (.reg []
 [⟨some 17, none, .mov, [.t 0]⟩,
 ⟨some 18, none, .mov, [.t 1]⟩,
 ⟨some 19, none, .bin .gtr .scal, [.t 17, .t 18]⟩])
 (.cond (.t 19)
 (.seq (.reg []
 [⟨some 4, none, .mov, [.c (.int .i64 1)]⟩])
 .ret)
 .skip))
 (.seq (.reg []
 [⟨some 4, none, .mov, [.c (.int .i64 0)]⟩])
 .ret)))))))
theorem i82 : fnInfo Try.prog 82 = some (20, [.t 4], ac82) := by kernel_rfl
/-- "slices.Grow[[]crossroads/api.Header,crossroads/api.Header]": 27 temporaries, 2 parameters, results some [.t 4]. -/
def ac83 : AC :=
 .seq (.reg []
 [⟨some 4, none, .mov, [.c .nils]⟩])
 (.seq (.seq (.reg []
 [⟨some 5, none, .mov, [.t 1]⟩,
 ⟨some 6, none, .bin .lss .scal, [.t 5, .c (.int .i64 0)]⟩])
 (.cond (.t 6)
 (.reg []
 [⟨some 7, none, .mkif 9, [.c (.str (bstr [99, 97, 110, 110, 111, 116, 32, 98, 101, 32, 110, 101, 103, 97, 116, 105, 118, 101]))]⟩,
 ⟨none, none, .bad, []⟩])
 .skip))
 (.seq (.seq (.reg []
 [⟨some 8, none, .mov, [.t 1]⟩,
 ⟨some 9, none, .mov, [.t 0]⟩,
 ⟨some 10, none, .capL, [.t 9]⟩,
 ⟨some 11, none, .mov, [.t 0]⟩,
 ⟨some 12, none, .lenL, [.t 11]⟩,
 ⟨some 13, none, .bin .sub .scal, [.t 10, .t 12]⟩,
 ⟨some 14, none, .bin .sub .scal, [.t 8, .t 13]⟩,
 ⟨some 1, none, .mov, [.t 14]⟩])
 (.seq (.reg []
 [⟨some 15, none, .mov, [.t 1]⟩,
 ⟨some 16, none, .bin .gtr .scal, [.t 15, .c (.int .i64 0)]⟩])
 (.cond (.t 16)
 (.reg []
 [⟨some 17, none, .mov, [.t 0]⟩,
 ⟨some 18, none, .mov, [.t 0]⟩,
 ⟨some 19, none, .capL, [.t 18]⟩,
 ⟨some 20, none, .slice 8 false true, [.t 17, .t 19]⟩,
 ⟨some 21, none, .mov, [.t 1]⟩,
 ⟨some 22, none, .appendZ 8 67 56 [.int .i64 0, .int .i64 0, .int .i64 0, .int .u32 0, .int .u32 0, .int .u32 0, .int .i64 0, .int .i64 0], [.t 20, .t 21]⟩,
 ⟨some 23, none, .mov, [.t 0]⟩,
 ⟨some 24, none, .lenL, [.t 23]⟩,
 ⟨some 25, none, .slice 8 false true, [.t 22, .t 24]⟩,
 ⟨some 0, none, .mov, [.t 25]⟩])
 .skip)))
 (.seq (.reg []
 [⟨some 26, none, .mov, [.t 0]⟩,
 ⟨some 4, none, .mov, [.t 26]⟩])
 .ret)))
theorem i83 : fnInfo Try.prog 83 = some (27, [.t 4], ac83) := by kernel_rfl
def ac84_1 : AC :=
 .seq (.seq (.reg []
 [⟨some 5, none, .mov, [.t 4]⟩,
 ⟨some 6, none, .bin .lss .scal, [.t 5, .c (.int .i64 32)]⟩])
 (.cond (.t 6)
 .skip
 (.exit 0)))
 (.seq (.block 1 (.seq (.reg []
 [⟨some 9, none, .mov, [.t 3]⟩,
 ⟨some 10, none, .bin .mul .scal, [.t 9, .c (.int .u32 2)]⟩,
 ⟨some 3, none, .mov, [.t 10]⟩])
 (.seq (.reg []
 [⟨some 11, none, .mov, [.t 4]⟩,
 ⟨some 12, none, .mov, [.t 0]⟩,
 ⟨some 13, none, .bin .lss .scal, [.t 11, .t 12]⟩])
 (.cond (.t 13)
 (.reg []
 [⟨some 14, none, .mov, [.t 3]⟩,
 ⟨some 15, none, .bin .add .scal, [.t 14, .c (.int .u32 1)]⟩,
 ⟨some 3, none, .mov, [.t 15]⟩])
 .skip))))
 (.reg []
 [⟨some 7, none, .mov, [.t 4]⟩,
 ⟨some 8, none, .bin .add .scal, [.t 7, .c (.int .i64 1)]⟩,
 ⟨some 4, none, .mov, [.t 8]⟩]))
/-- "crossroads/crossroadsref03.Mask": 17 temporaries, 1 parameters, results some [.t 2]. -/
def ac84 : AC :=
 .seq (.reg []
 [⟨some 2, none, .mov, [.c (.int .u32 0)]⟩])
 (.seq (.reg []
 [⟨some 3, none, .mov, [.c (.int .u32 0)]⟩])
 (.seq (.seq (.reg []
 [⟨some 4, none, .mov, [.c (.int .i64 0)]⟩])
 (.block 0 (.loop ac84_1)))
 (.seq (.reg []
 [⟨some 16, none, .mov, [.t 3]⟩,
 ⟨some 2, none, .mov, [.t 16]⟩])
 .ret)))
theorem i84 : fnInfo Try.prog 84 = some (17, [.t 2], ac84) := by kernel_rfl
/-- "cmp.isNaN[uint32]": 6 temporaries, 1 parameters, results some [.t 2]. -/
def ac85 : AC :=
 .seq (.reg []
 [⟨some 2, none, .mov, [.c (.bool false)]⟩])
 (.seq (.reg []
 [⟨some 3, none, .mov, [.t 0]⟩,
 ⟨some 4, none, .mov, [.t 0]⟩,
 ⟨some 5, none, .bin .neq .scal, [.t 3, .t 4]⟩,
 ⟨some 2, none, .mov, [.t 5]⟩])
 .ret)
theorem i85 : fnInfo Try.prog 85 = some (6, [.t 2], ac85) := by kernel_rfl
end Go.Proofs.Ytbmdpedhobkeeaa.Abs

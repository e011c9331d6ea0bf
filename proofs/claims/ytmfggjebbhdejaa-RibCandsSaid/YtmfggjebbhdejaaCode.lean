/- The functions of the program as the abstract machine's code: each is what the model's code is turned into. -/
import Derived.Test.YtmfggjebbhdejaaA20
import Derived.Test.YtmfggjebbhdejaaP0
import Derived.Test.YtmfggjebbhdejaaProg
import Derived.KernelRfl
namespace Go.Proofs.Ytmfggjebbhdejaa.Abs
open Go

theorem mixed : Try.prog.follows .mixedOrders = true := by kernel_rfl

/-- "crossroads/crossroadslaw25.RibCands": 70 temporaries, 3 parameters, results some [.t 6]. -/
def ac3 : AC :=
 .seq (.reg []
 [⟨some 4, none, .box, [.t 1]⟩,
 ⟨some 5, none, .box, [.t 2]⟩,
 ⟨some 6, none, .mov, [.c (.bool false)]⟩])
 (.seq (.seq (.reg []
 [⟨some 8, none, .mov, [.t 0]⟩,
 ⟨some 9, none, .lenL, [.t 8]⟩,
 ⟨some 10, none, .bin .gtr .scal, [.t 9, .c (.int .i64 80)]⟩,
 ⟨some 11, none, .mov, [.t 10]⟩,
 ⟨some 12, some (11, false), .mov, [.t 0]⟩,
 ⟨some 13, some (11, false), .call 6, [.t 12]⟩,
 ⟨some 14, some (11, false), .unNot, [.t 13]⟩,
 ⟨some 15, none, .pick, [.t 11, .c (.bool true), .t 14]⟩,
 ⟨some 16, none, .mov, [.t 15]⟩,
 ⟨some 17, some (16, false), .fldA 9, [.t 4]⟩,
 ⟨some 18, some (16, false), .load none, [.t 17]⟩,
 ⟨some 19, some (16, false), .lenL, [.t 18]⟩,
 ⟨some 20, some (16, false), .bin .gtr .scal, [.t 19, .c (.int .i64 20)]⟩,
 ⟨some 21, none, .pick, [.t 16, .c (.bool true), .t 20]⟩,
 ⟨some 22, none, .mov, [.t 21]⟩,
 ⟨some 23, some (22, false), .fldA 9, [.t 5]⟩,
 ⟨some 24, some (22, false), .load none, [.t 23]⟩,
 ⟨some 25, some (22, false), .lenL, [.t 24]⟩,
 ⟨some 26, some (22, false), .bin .gtr .scal, [.t 25, .c (.int .i64 20)]⟩,
 ⟨some 27, none, .pick, [.t 22, .c (.bool true), .t 26]⟩])
 (.cond (.t 27)
 (.seq (.reg []
 [⟨some 28, none, .call 7, []⟩,
 ⟨some 6, none, .mov, [.t 28]⟩])
 .ret)
 .skip))
 (.seq (.reg []
 [⟨some 29, none, .mov, [.t 0]⟩,
 ⟨some 30, none, .build [.nils] [(0, 1)], [.t 29]⟩,
 ⟨some 7, none, .alloc [.nils], []⟩,
 ⟨none, none, .store 1, [.t 7, .t 30]⟩])
 (.seq (.reg [[], [0, 0], [1], [2, 1, 1], [1], [4, 3, 1], [5, 5, 1], [3, 6, 1], [1, 7], [8, 6], [9], [10, 9, 9], [9], [12, 11, 9], [13, 13, 9], [11, 14, 9], [9, 15], [16, 14], [17], [17], [18, 19, 17, 17], [17], [21, 20, 17], [17], [23, 22, 17], [22, 24, 24, 17], [20, 25, 17], [17, 26], [27, 25], [28], [28], [29, 30, 28, 28], [28], [32, 31, 28], [28], [34, 33, 28], [33, 35, 35, 28], [31, 36, 28], [28, 37], [38, 36, 0, 1, 2, 3, 4, 5, 6, 7, 8, 9, 10, 11, 12, 13, 14, 15, 16, 17, 18, 19, 20, 21, 22, 23, 24, 25, 26, 27, 28, 29, 30, 31, 32, 33, 34, 35, 36, 37, 38]]
 [⟨some 31, none, .call 7, []⟩,
 ⟨some 32, none, .mov, [.t 31]⟩,
 ⟨some 33, some (32, true), .load (some 10), [.t 4]⟩,
 ⟨some 34, some (32, true), .call 8, [.t 33]⟩,
 ⟨some 35, some (32, true), .load (some 10), [.t 4]⟩,
 ⟨some 36, some (32, true), .call 10, [.t 35]⟩,
 ⟨some 37, some (32, true), .call 9, [.t 36]⟩,
 ⟨some 38, some (32, true), .bin .eql .bool, [.t 34, .t 37]⟩,
 ⟨some 39, none, .pick, [.t 32, .t 38, .c (.bool false)]⟩,
 ⟨some 40, none, .mov, [.t 39]⟩,
 ⟨some 41, some (40, true), .load (some 1), [.t 7]⟩,
 ⟨some 42, some (40, true), .call 11, [.t 41]⟩,
 ⟨some 43, some (40, true), .load (some 1), [.t 7]⟩,
 ⟨some 44, some (40, true), .call 13, [.t 43]⟩,
 ⟨some 45, some (40, true), .call 12, [.t 44]⟩,
 ⟨some 46, some (40, true), .bin .eql .bool, [.t 42, .t 45]⟩,
 ⟨some 47, none, .pick, [.t 40, .t 46, .c (.bool false)]⟩,
 ⟨some 48, none, .mov, [.t 47]⟩,
 ⟨some 49, some (48, true), .load (some 10), [.t 4]⟩,
 ⟨some 50, some (48, true), .load (some 10), [.t 5]⟩,
 ⟨some 51, some (48, true), .call 14, [.t 49, .t 50]⟩,
 ⟨some 52, some (48, true), .load (some 10), [.t 4]⟩,
 ⟨some 53, some (48, true), .call 10, [.t 52]⟩,
 ⟨some 54, some (48, true), .load (some 10), [.t 5]⟩,
 ⟨some 55, some (48, true), .call 10, [.t 54]⟩,
 ⟨some 56, some (48, true), .call 15, [.t 53, .t 55]⟩,
 ⟨some 57, some (48, true), .bin .eql .bool, [.t 51, .t 56]⟩,
 ⟨some 58, none, .pick, [.t 48, .t 57, .c (.bool false)]⟩,
 ⟨some 59, none, .mov, [.t 58]⟩,
 ⟨some 60, some (59, true), .load (some 10), [.t 4]⟩,
 ⟨some 61, some (59, true), .load (some 10), [.t 5]⟩,
 ⟨some 62, some (59, true), .call 16, [.t 60, .t 61]⟩,
 ⟨some 63, some (59, true), .load (some 10), [.t 4]⟩,
 ⟨some 64, some (59, true), .call 10, [.t 63]⟩,
 ⟨some 65, some (59, true), .load (some 10), [.t 5]⟩,
 ⟨some 66, some (59, true), .call 10, [.t 65]⟩,
 ⟨some 67, some (59, true), .call 17, [.t 64, .t 66]⟩,
 ⟨some 68, some (59, true), .bin .eql .bool, [.t 62, .t 67]⟩,
 ⟨some 69, none, .pick, [.t 59, .t 68, .c (.bool false)]⟩,
 ⟨some 6, none, .mov, [.t 69]⟩])
 .ret)))
theorem i3 : fnInfo Try.prog 3 = some (70, [.t 6], ac3) := by kernel_rfl
def ac6_1 : AC :=
 .seq (.seq (.reg []
 [⟨some 4, none, .mov, [.t 3]⟩,
 ⟨some 5, none, .mov, [.t 0]⟩,
 ⟨some 6, none, .lenL, [.t 5]⟩,
 ⟨some 7, none, .bin .lss .scal, [.t 4, .t 6]⟩])
 (.cond (.t 7)
 .skip
 (.exit 0)))
 (.seq (.block 1 (.seq (.reg []
 [⟨some 10, none, .mov, [.t 0]⟩,
 ⟨some 11, none, .mov, [.t 3]⟩,
 ⟨some 12, none, .idxA 10, [.t 10, .t 11]⟩,
 ⟨some 13, none, .fldA 9, [.t 12]⟩,
 ⟨some 14, none, .load none, [.t 13]⟩,
 ⟨some 15, none, .lenL, [.t 14]⟩,
 ⟨some 16, none, .bin .gtr .scal, [.t 15, .c (.int .i64 20)]⟩])
 (.cond (.t 16)
 (.seq (.reg []
 [⟨some 2, none, .mov, [.c (.bool false)]⟩])
 .ret)
 .skip)))
 (.reg []
 [⟨some 8, none, .mov, [.t 3]⟩,
 ⟨some 9, none, .bin .add .scal, [.t 8, .c (.int .i64 1)]⟩,
 ⟨some 3, none, .mov, [.t 9]⟩]))
/-- "crossroads/crossroadslaw25.short": 17 temporaries, 1 parameters, results some [.t 2]. -/
def ac6 : AC :=
 .seq (.reg []
 [⟨some 2, none, .mov, [.c (.bool false)]⟩])
 (.seq (.seq (.reg []
 [⟨some 3, none, .mov, [.c (.int .i64 0)]⟩])
 (.block 0 (.loop ac6_1)))
 (.seq (.reg []
 [⟨some 2, none, .mov, [.c (.bool true)]⟩])
 .ret))
theorem i6 : fnInfo Try.prog 6 = some (17, [.t 2], ac6) := by kernel_rfl
/-- "crossroads/crossroadslaw25.alive": 56 temporaries, 0 parameters, results some [.t 0]. -/
def ac7 : AC :=
 .seq (.reg []
 [⟨some 0, none, .mov, [.c (.bool false)]⟩])
 (.seq (.reg []
 [⟨some 8, none, .build [.int .i64 0, .int .u32 0] [(0, 1)], [.c (.int .i64 1)]⟩,
 ⟨some 9, none, .bslice 2 61, [.t 8]⟩,
 ⟨some 10, none, .build [.int .u32 0, .int .i64 0, .int .i64 0, .int .i64 0, .int .i64 0, .int .i64 0, .int .u32 0, .bool false, .int .i64 0, .nils] [(2, 1), (4, 1), (9, 1)], [.c (.int .i64 2), .c (.int .i64 110), .t 9]⟩,
 ⟨some 1, none, .alloc [.int .u32 0, .int .i64 0, .int .i64 0, .int .i64 0, .int .i64 0, .int .i64 0, .int .u32 0, .bool false, .int .i64 0, .nils], []⟩,
 ⟨none, none, .store 10, [.t 1, .t 10]⟩])
 (.seq (.reg []
 [⟨some 11, none, .build [.int .i64 0, .int .u32 0] [(0, 1)], [.c (.int .i64 2)]⟩,
 ⟨some 12, none, .bslice 2 61, [.t 11]⟩,
 ⟨some 13, none, .build [.int .u32 0, .int .i64 0, .int .i64 0, .int .i64 0, .int .i64 0, .int .i64 0, .int .u32 0, .bool false, .int .i64 0, .nils] [(2, 1), (4, 1), (9, 1)], [.c (.int .i64 1), .c (.int .i64 1), .t 12]⟩,
 ⟨some 2, none, .alloc [.int .u32 0, .int .i64 0, .int .i64 0, .int .i64 0, .int .i64 0, .int .i64 0, .int .u32 0, .bool false, .int .i64 0, .nils], []⟩,
 ⟨none, none, .store 10, [.t 2, .t 13]⟩])
 (.seq (.reg []
 [⟨some 15, none, .build [.nils] [], []⟩,
 ⟨some 16, none, .load (some 10), [.t 1]⟩,
 ⟨some 17, none, .call 23, [.t 15, .t 16]⟩,
 ⟨some 14, none, .mov, [.t 17]⟩,
 ⟨some 18, none, .ext 0, [.t 14]⟩,
 ⟨some 19, none, .ext 1, [.t 14]⟩,
 ⟨some 3, none, .alloc [.nils], []⟩,
 ⟨none, none, .store 1, [.t 3, .t 18]⟩,
 ⟨some 4, none, .mov, [.t 19]⟩])
 (.seq (.reg []
 [⟨some 21, none, .load (some 1), [.t 3]⟩,
 ⟨some 22, none, .load (some 10), [.t 2]⟩,
 ⟨some 23, none, .call 23, [.t 21, .t 22]⟩,
 ⟨some 20, none, .mov, [.t 23]⟩,
 ⟨some 24, none, .ext 0, [.t 20]⟩,
 ⟨some 25, none, .ext 1, [.t 20]⟩,
 ⟨none, none, .store 1, [.t 3, .t 24]⟩,
 ⟨some 5, none, .mov, [.t 25]⟩])
 (.seq (.reg []
 [⟨some 27, none, .load (some 1), [.t 3]⟩,
 ⟨some 28, none, .call 18, [.t 27, .c (.int .u32 5)]⟩,
 ⟨some 26, none, .mov, [.t 28]⟩,
 ⟨some 29, none, .ext 0, [.t 26]⟩,
 ⟨some 30, none, .ext 1, [.t 26]⟩,
 ⟨some 6, none, .alloc [.int .u32 0, .int .i64 0, .int .i64 0, .int .i64 0, .int .i64 0, .int .i64 0, .int .u32 0, .bool false, .int .i64 0, .nils], []⟩,
 ⟨none, none, .store 10, [.t 6, .t 29]⟩,
 ⟨some 7, none, .mov, [.t 30]⟩])
 (.seq (.reg []
 [⟨some 31, none, .mov, [.t 4]⟩,
 ⟨some 32, none, .bin .eql .scal, [.t 31, .c (.int .i64 0)]⟩,
 ⟨some 33, none, .mov, [.t 32]⟩,
 ⟨some 34, some (33, true), .mov, [.t 5]⟩,
 ⟨some 35, some (33, true), .bin .eql .scal, [.t 34, .c (.int .i64 0)]⟩,
 ⟨some 36, none, .pick, [.t 33, .t 35, .c (.bool false)]⟩,
 ⟨some 37, none, .mov, [.t 36]⟩,
 ⟨some 38, some (37, true), .mov, [.t 7]⟩,
 ⟨some 39, none, .pick, [.t 37, .t 38, .c (.bool false)]⟩,
 ⟨some 40, none, .mov, [.t 39]⟩,
 ⟨some 41, some (40, true), .fldA 4, [.t 6]⟩,
 ⟨some 42, some (40, true), .load none, [.t 41]⟩,
 ⟨some 43, some (40, true), .bin .eql .scal, [.t 42, .c (.int .i64 1)]⟩,
 ⟨some 44, none, .pick, [.t 40, .t 43, .c (.bool false)]⟩,
 ⟨some 45, none, .mov, [.t 44]⟩,
 ⟨some 46, some (45, true), .fldA 0, [.t 3]⟩,
 ⟨some 47, some (45, true), .load none, [.t 46]⟩,
 ⟨some 48, some (45, true), .lenL, [.t 47]⟩,
 ⟨some 49, some (45, true), .bin .eql .scal, [.t 48, .c (.int .i64 2)]⟩,
 ⟨some 50, none, .pick, [.t 45, .t 49, .c (.bool false)]⟩,
 ⟨some 51, none, .mov, [.t 50]⟩,
 ⟨some 52, some (51, true), .load (some 10), [.t 2]⟩,
 ⟨some 53, some (51, true), .load (some 10), [.t 1]⟩,
 ⟨some 54, some (51, true), .call 16, [.t 52, .t 53]⟩,
 ⟨some 55, none, .pick, [.t 51, .t 54, .c (.bool false)]⟩,
 ⟨some 0, none, .mov, [.t 55]⟩])
 .ret))))))
theorem i7 : fnInfo Try.prog 7 = some (56, [.t 0], ac7) := by kernel_rfl
/-- "crossroads/rib.May": 56 temporaries, 1 parameters, results some [.t 2]. -/
def ac8 : AC :=
 .seq (.reg []
 [⟨some 1, none, .box, [.t 0]⟩,
 ⟨some 2, none, .mov, [.c (.bool false)]⟩])
 (.seq (.reg []
 [⟨some 5, none, .fldA 4, [.t 1]⟩,
 ⟨some 6, none, .load none, [.t 5]⟩,
 ⟨some 7, none, .call 26, [.t 6, .c (.int .i64 1), .c (.int .i64 255)]⟩,
 ⟨some 3, none, .mov, [.t 7]⟩])
 (.seq (.seq (.reg []
 [⟨some 8, none, .fldA 2, [.t 1]⟩,
 ⟨some 9, none, .load none, [.t 8]⟩,
 ⟨some 10, none, .bin .eql .scal, [.t 9, .c (.int .i64 0)]⟩])
 (.cond (.t 10)
 (.reg []
 [⟨some 11, none, .fldA 4, [.t 1]⟩,
 ⟨some 12, none, .load none, [.t 11]⟩,
 ⟨some 13, none, .bin .eql .scal, [.t 12, .c (.int .i64 0)]⟩,
 ⟨some 3, none, .mov, [.t 13]⟩])
 .skip))
 (.seq (.reg []
 [⟨some 14, none, .fldA 8, [.t 1]⟩,
 ⟨some 15, none, .load none, [.t 14]⟩,
 ⟨some 16, none, .call 26, [.t 15, .c (.int .i64 0), .c (.int .i64 31)]⟩,
 ⟨some 17, none, .mov, [.t 16]⟩,
 ⟨some 18, some (17, true), .fldA 7, [.t 1]⟩,
 ⟨some 19, some (17, true), .load none, [.t 18]⟩,
 ⟨some 20, some (17, true), .mov, [.t 19]⟩,
 ⟨some 21, some (20, false), .fldA 8, [.t 1]⟩,
 ⟨some 22, some (20, false), .load none, [.t 21]⟩,
 ⟨some 23, some (20, false), .bin .eql .scal, [.t 22, .c (.int .i64 0)]⟩,
 ⟨some 24, some (17, true), .pick, [.t 20, .c (.bool true), .t 23]⟩,
 ⟨some 25, none, .pick, [.t 17, .t 24, .c (.bool false)]⟩,
 ⟨some 4, none, .mov, [.t 25]⟩])
 (.seq (.reg []
 [⟨some 26, none, .fldA 0, [.t 1]⟩,
 ⟨some 27, none, .load (some 2), [.t 26]⟩,
 ⟨some 28, none, .call 27, [.t 27]⟩,
 ⟨some 29, none, .mov, [.t 28]⟩,
 ⟨some 30, some (29, true), .fldA 2, [.t 1]⟩,
 ⟨some 31, some (29, true), .load none, [.t 30]⟩,
 ⟨some 32, some (29, true), .call 26, [.t 31, .c (.int .i64 0), .c (.int .i64 5)]⟩,
 ⟨some 33, none, .pick, [.t 29, .t 32, .c (.bool false)]⟩,
 ⟨some 34, none, .mov, [.t 33]⟩,
 ⟨some 35, some (34, true), .fldA 3, [.t 1]⟩,
 ⟨some 36, some (34, true), .load none, [.t 35]⟩,
 ⟨some 37, some (34, true), .call 26, [.t 36, .c (.int .i64 0), .c (.int .i64 99)]⟩,
 ⟨some 38, none, .pick, [.t 34, .t 37, .c (.bool false)]⟩,
 ⟨some 39, none, .mov, [.t 38]⟩,
 ⟨some 40, some (39, true), .fldA 5, [.t 1]⟩,
 ⟨some 41, some (39, true), .load none, [.t 40]⟩,
 ⟨some 42, some (39, true), .bin .geq .scal, [.t 41, .c (.int .i64 0)]⟩,
 ⟨some 43, none, .pick, [.t 39, .t 42, .c (.bool false)]⟩,
 ⟨some 44, none, .mov, [.t 43]⟩,
 ⟨some 45, some (44, true), .mov, [.t 3]⟩,
 ⟨some 46, none, .pick, [.t 44, .t 45, .c (.bool false)]⟩,
 ⟨some 47, none, .mov, [.t 46]⟩,
 ⟨some 48, some (47, true), .mov, [.t 4]⟩,
 ⟨some 49, none, .pick, [.t 47, .t 48, .c (.bool false)]⟩,
 ⟨some 50, none, .mov, [.t 49]⟩,
 ⟨some 51, some (50, true), .fldA 9, [.t 1]⟩,
 ⟨some 52, some (50, true), .load none, [.t 51]⟩,
 ⟨some 53, some (50, true), .lenL, [.t 52]⟩,
 ⟨some 54, some (50, true), .call 26, [.t 53, .c (.int .i64 1), .c (.int .i64 8)]⟩,
 ⟨some 55, none, .pick, [.t 50, .t 54, .c (.bool false)]⟩,
 ⟨some 2, none, .mov, [.t 55]⟩])
 .ret))))
theorem i8 : fnInfo Try.prog 8 = some (56, [.t 2], ac8) := by kernel_rfl
/-- "crossroads/crossroadsref25.May": 63 temporaries, 1 parameters, results some [.t 2]. -/
def ac9 : AC :=
 .seq (.reg []
 [⟨some 1, none, .box, [.t 0]⟩,
 ⟨some 2, none, .mov, [.c (.bool false)]⟩])
 (.seq (.seq (.reg []
 [⟨some 3, none, .fldA 0, [.t 1]⟩,
 ⟨some 4, none, .load (some 2), [.t 3]⟩,
 ⟨some 5, none, .call 28, [.t 4]⟩,
 ⟨some 6, none, .unNot, [.t 5]⟩,
 ⟨some 7, none, .mov, [.t 6]⟩,
 ⟨some 8, some (7, false), .fldA 2, [.t 1]⟩,
 ⟨some 9, some (7, false), .load none, [.t 8]⟩,
 ⟨some 10, some (7, false), .call 29, [.t 9, .c (.int .i64 0), .c (.int .i64 5)]⟩,
 ⟨some 11, some (7, false), .unNot, [.t 10]⟩,
 ⟨some 12, none, .pick, [.t 7, .c (.bool true), .t 11]⟩,
 ⟨some 13, none, .mov, [.t 12]⟩,
 ⟨some 14, some (13, false), .fldA 3, [.t 1]⟩,
 ⟨some 15, some (13, false), .load none, [.t 14]⟩,
 ⟨some 16, some (13, false), .call 29, [.t 15, .c (.int .i64 0), .c (.int .i64 99)]⟩,
 ⟨some 17, some (13, false), .unNot, [.t 16]⟩,
 ⟨some 18, none, .pick, [.t 13, .c (.bool true), .t 17]⟩,
 ⟨some 19, none, .mov, [.t 18]⟩,
 ⟨some 20, some (19, false), .fldA 5, [.t 1]⟩,
 ⟨some 21, some (19, false), .load none, [.t 20]⟩,
 ⟨some 22, some (19, false), .bin .lss .scal, [.t 21, .c (.int .i64 0)]⟩,
 ⟨some 23, none, .pick, [.t 19, .c (.bool true), .t 22]⟩,
 ⟨some 24, none, .mov, [.t 23]⟩,
 ⟨some 25, some (24, false), .fldA 8, [.t 1]⟩,
 ⟨some 26, some (24, false), .load none, [.t 25]⟩,
 ⟨some 27, some (24, false), .call 29, [.t 26, .c (.int .i64 0), .c (.int .i64 31)]⟩,
 ⟨some 28, some (24, false), .unNot, [.t 27]⟩,
 ⟨some 29, none, .pick, [.t 24, .c (.bool true), .t 28]⟩,
 ⟨some 30, none, .mov, [.t 29]⟩,
 ⟨some 31, some (30, false), .fldA 9, [.t 1]⟩,
 ⟨some 32, some (30, false), .load none, [.t 31]⟩,
 ⟨some 33, some (30, false), .lenL, [.t 32]⟩,
 ⟨some 34, some (30, false), .call 29, [.t 33, .c (.int .i64 1), .c (.int .i64 8)]⟩,
 ⟨some 35, some (30, false), .unNot, [.t 34]⟩,
 ⟨some 36, none, .pick, [.t 30, .c (.bool true), .t 35]⟩])
 (.cond (.t 36)
 (.seq (.reg []
 [⟨some 2, none, .mov, [.c (.bool false)]⟩])
 .ret)
 .skip))
 (.seq (.seq (.reg []
 [⟨some 37, none, .fldA 7, [.t 1]⟩,
 ⟨some 38, none, .load none, [.t 37]⟩,
 ⟨some 39, none, .unNot, [.t 38]⟩,
 ⟨some 40, none, .mov, [.t 39]⟩,
 ⟨some 41, some (40, true), .fldA 8, [.t 1]⟩,
 ⟨some 42, some (40, true), .load none, [.t 41]⟩,
 ⟨some 43, some (40, true), .bin .neq .scal, [.t 42, .c (.int .i64 0)]⟩,
 ⟨some 44, none, .pick, [.t 40, .t 43, .c (.bool false)]⟩])
 (.cond (.t 44)
 (.seq (.reg []
 [⟨some 2, none, .mov, [.c (.bool false)]⟩])
 .ret)
 .skip))
 (.seq (.reg []
 [⟨some 45, none, .fldA 2, [.t 1]⟩,
 ⟨some 46, none, .load none, [.t 45]⟩,
 ⟨some 47, none, .bin .eql .scal, [.t 46, .c (.int .i64 0)]⟩,
 ⟨some 48, none, .mov, [.t 47]⟩,
 ⟨some 49, some (48, true), .fldA 4, [.t 1]⟩,
 ⟨some 50, some (48, true), .load none, [.t 49]⟩,
 ⟨some 51, some (48, true), .bin .eql .scal, [.t 50, .c (.int .i64 0)]⟩,
 ⟨some 52, none, .pick, [.t 48, .t 51, .c (.bool false)]⟩,
 ⟨some 53, none, .mov, [.t 52]⟩,
 ⟨some 54, some (53, false), .fldA 2, [.t 1]⟩,
 ⟨some 55, some (53, false), .load none, [.t 54]⟩,
 ⟨some 56, some (53, false), .bin .neq .scal, [.t 55, .c (.int .i64 0)]⟩,
 ⟨some 57, some (53, false), .mov, [.t 56]⟩,
 ⟨some 58, some (57, true), .fldA 4, [.t 1]⟩,
 ⟨some 59, some (57, true), .load none, [.t 58]⟩,
 ⟨some 60, some (57, true), .call 29, [.t 59, .c (.int .i64 1), .c (.int .i64 255)]⟩,
 ⟨some 61, some (53, false), .pick, [.t 57, .t 60, .c (.bool false)]⟩,
 ⟨some 62, none, .pick, [.t 53, .c (.bool true), .t 61]⟩,
 ⟨some 2, none, .mov, [.t 62]⟩])
 .ret)))
theorem i9 : fnInfo Try.prog 9 = some (63, [.t 2], ac9) := by kernel_rfl
def ac10_1 : AC :=
 .seq (.seq (.reg []
 [⟨some 6, none, .mov, [.t 4]⟩,
 ⟨some 7, none, .fldA 9, [.t 1]⟩,
 ⟨some 8, none, .load none, [.t 7]⟩,
 ⟨some 9, none, .lenL, [.t 8]⟩,
 ⟨some 10, none, .bin .lss .scal, [.t 6, .t 9]⟩])
 (.cond (.t 10)
 .skip
 (.exit 0)))
 (.seq (.block 1 (.reg []
 [⟨some 13, none, .mov, [.t 3]⟩,
 ⟨some 14, none, .fldA 9, [.t 1]⟩,
 ⟨some 15, none, .load none, [.t 14]⟩,
 ⟨some 16, none, .mov, [.t 4]⟩,
 ⟨some 17, none, .idxA 2, [.t 15, .t 16]⟩,
 ⟨some 18, none, .load (some 2), [.t 17]⟩,
 ⟨some 19, none, .call 30, [.t 18]⟩,
 ⟨some 20, none, .bslice 2 64, [.t 19]⟩,
 ⟨some 21, none, .append 2 64 16, [.t 13, .t 20]⟩,
 ⟨some 3, none, .mov, [.t 21]⟩]))
 (.reg []
 [⟨some 11, none, .mov, [.t 4]⟩,
 ⟨some 12, none, .bin .add .scal, [.t 11, .c (.int .i64 1)]⟩,
 ⟨some 4, none, .mov, [.t 12]⟩]))
/-- "crossroads/crossroadslaw25.plain": 40 temporaries, 1 parameters, results some [.c 2 (some 10)]. -/
def ac10 : AC :=
 .seq (.reg []
 [⟨some 1, none, .box, [.t 0]⟩,
 ⟨some 2, none, .alloc [.int .u32 0, .int .i64 0, .int .i64 0, .int .i64 0, .int .i64 0, .int .i64 0, .int .u32 0, .bool false, .int .i64 0, .nils], []⟩])
 (.seq (.reg []
 [⟨some 5, none, .bslice 2 64, []⟩,
 ⟨some 3, none, .mov, [.t 5]⟩])
 (.seq (.seq (.reg []
 [⟨some 4, none, .mov, [.c (.int .i64 0)]⟩])
 (.block 0 (.loop ac10_1)))
 (.seq (.reg []
 [⟨some 22, none, .fldA 0, [.t 1]⟩,
 ⟨some 23, none, .load (some 2), [.t 22]⟩,
 ⟨some 24, none, .fldA 2, [.t 1]⟩,
 ⟨some 25, none, .load none, [.t 24]⟩,
 ⟨some 26, none, .fldA 3, [.t 1]⟩,
 ⟨some 27, none, .load none, [.t 26]⟩,
 ⟨some 28, none, .fldA 4, [.t 1]⟩,
 ⟨some 29, none, .load none, [.t 28]⟩,
 ⟨some 30, none, .fldA 5, [.t 1]⟩,
 ⟨some 31, none, .load none, [.t 30]⟩,
 ⟨some 32, none, .fldA 6, [.t 1]⟩,
 ⟨some 33, none, .load none, [.t 32]⟩,
 ⟨some 34, none, .fldA 7, [.t 1]⟩,
 ⟨some 35, none, .load none, [.t 34]⟩,
 ⟨some 36, none, .fldA 8, [.t 1]⟩,
 ⟨some 37, none, .load none, [.t 36]⟩,
 ⟨some 38, none, .mov, [.t 3]⟩,
 ⟨some 39, none, .build [.int .u32 0, .int .i64 0, .int .i64 0, .int .i64 0, .int .i64 0, .int .i64 0, .int .u32 0, .bool false, .int .i64 0, .nils] [(0, 2), (2, 1), (3, 1), (4, 1), (5, 1), (6, 1), (7, 1), (8, 1), (9, 1)], [.t 23, .t 25, .t 27, .t 29, .t 31, .t 33, .t 35, .t 37, .t 38]⟩,
 ⟨none, none, .store 10, [.t 2, .t 39]⟩])
 .ret)))
theorem i10 : fnInfo Try.prog 10 = some (40, [.c 2 (some 10)], ac10) := by kernel_rfl
def ac11_1 : AC :=
 .seq (.reg []
 [⟨some 9, none, .bin .lss .scal, [.t 8, .t 7]⟩])
 (.seq (.cond (.t 9)
 .skip
 (.exit 0))
 (.seq (.block 1 (.seq (.reg []
 [⟨some 10, none, .mov, [.t 8]⟩,
 ⟨some 11, none, .idxA 10, [.t 6, .t 8]⟩,
 ⟨some 12, none, .load (some 10), [.t 11]⟩,
 ⟨some 4, none, .alloc [.int .u32 0, .int .i64 0, .int .i64 0, .int .i64 0, .int .i64 0, .int .i64 0, .int .u32 0, .bool false, .int .i64 0, .nils], []⟩,
 ⟨some 3, none, .mov, [.t 10]⟩,
 ⟨none, none, .store 10, [.t 4, .t 12]⟩])
 (.seq (.reg [[], [0], [1], [2, 1], [3], [4, 3], [5, 3, 3], [6], [7, 6], [6], [9, 6], [8, 10, 6], [11, 6], [6], [12, 13, 6, 6], [14, 6], [6, 15, 3], [3, 16]]
 [⟨some 13, none, .load (some 10), [.t 4]⟩,
 ⟨some 14, none, .call 8, [.t 13]⟩,
 ⟨some 15, none, .unNot, [.t 14]⟩,
 ⟨some 16, none, .mov, [.t 15]⟩,
 ⟨some 17, some (16, false), .mov, [.t 3]⟩,
 ⟨some 18, some (16, false), .bin .gtr .scal, [.t 17, .c (.int .i64 0)]⟩,
 ⟨some 19, some (16, false), .mov, [.t 18]⟩,
 ⟨some 20, some (19, true), .fldA 0, [.t 1]⟩,
 ⟨some 21, some (19, true), .load none, [.t 20]⟩,
 ⟨some 22, some (19, true), .mov, [.t 3]⟩,
 ⟨some 23, some (19, true), .bin .sub .scal, [.t 22, .c (.int .i64 1)]⟩,
 ⟨some 24, some (19, true), .idxA 10, [.t 21, .t 23]⟩,
 ⟨some 25, some (19, true), .load (some 10), [.t 24]⟩,
 ⟨some 26, some (19, true), .load (some 10), [.t 4]⟩,
 ⟨some 27, some (19, true), .call 14, [.t 25, .t 26]⟩,
 ⟨some 28, some (19, true), .unNot, [.t 27]⟩,
 ⟨some 29, some (16, false), .pick, [.t 19, .t 28, .c (.bool false)]⟩,
 ⟨some 30, none, .pick, [.t 16, .c (.bool true), .t 29]⟩])
 (.cond (.t 30)
 (.seq (.reg []
 [⟨some 2, none, .mov, [.c (.bool false)]⟩])
 .ret)
 .skip))))
 (.reg []
 [⟨some 31, none, .bin .add .scal, [.t 8, .c (.int .i64 1)]⟩,
 ⟨some 8, none, .mov, [.t 31]⟩])))
/-- "crossroads/rib.MayAll": 36 temporaries, 1 parameters, results some [.t 2]. -/
def ac11 : AC :=
 .seq (.reg []
 [⟨some 1, none, .box, [.t 0]⟩,
 ⟨some 2, none, .mov, [.c (.bool false)]⟩])
 (.seq (.seq (.reg []
 [⟨some 5, none, .fldA 0, [.t 1]⟩,
 ⟨some 6, none, .load none, [.t 5]⟩,
 ⟨some 7, none, .lenL, [.t 6]⟩,
 ⟨some 8, none, .mov, [.c (.int .i64 0)]⟩])
 (.block 0 (.loop ac11_1)))
 (.seq (.reg []
 [⟨some 32, none, .fldA 0, [.t 1]⟩,
 ⟨some 33, none, .load none, [.t 32]⟩,
 ⟨some 34, none, .lenL, [.t 33]⟩,
 ⟨some 35, none, .bin .leq .scal, [.t 34, .c (.int .i64 500)]⟩,
 ⟨some 2, none, .mov, [.t 35]⟩])
 .ret))
theorem i11 : fnInfo Try.prog 11 = some (36, [.t 2], ac11) := by kernel_rfl
def ac12_1 : AC :=
 .seq (.seq (.reg []
 [⟨some 8, none, .mov, [.t 3]⟩,
 ⟨some 9, none, .fldA 0, [.t 1]⟩,
 ⟨some 10, none, .load none, [.t 9]⟩,
 ⟨some 11, none, .lenL, [.t 10]⟩,
 ⟨some 12, none, .bin .lss .scal, [.t 8, .t 11]⟩])
 (.cond (.t 12)
 .skip
 (.exit 0)))
 (.seq (.block 1 (.seq (.reg [[], [0], [], [1, 2], [3], [4], [5], [6, 5], [7], [8, 7], [9, 7, 7], [10], [11, 10], [10], [13, 10], [12, 14, 10], [15, 10], [10], [17, 10], [10], [18, 19, 10], [20, 10], [16, 21, 10, 10], [22, 10], [10, 23, 7], [7, 24]]
 [⟨some 15, none, .fldA 0, [.t 1]⟩,
 ⟨some 16, none, .load none, [.t 15]⟩,
 ⟨some 17, none, .mov, [.t 3]⟩,
 ⟨some 18, none, .idxA 10, [.t 16, .t 17]⟩,
 ⟨some 19, none, .load (some 10), [.t 18]⟩,
 ⟨some 20, none, .call 9, [.t 19]⟩,
 ⟨some 21, none, .unNot, [.t 20]⟩,
 ⟨some 22, none, .mov, [.t 21]⟩,
 ⟨some 23, some (22, false), .mov, [.t 3]⟩,
 ⟨some 24, some (22, false), .bin .gtr .scal, [.t 23, .c (.int .i64 0)]⟩,
 ⟨some 25, some (22, false), .mov, [.t 24]⟩,
 ⟨some 26, some (25, true), .fldA 0, [.t 1]⟩,
 ⟨some 27, some (25, true), .load none, [.t 26]⟩,
 ⟨some 28, some (25, true), .mov, [.t 3]⟩,
 ⟨some 29, some (25, true), .bin .sub .scal, [.t 28, .c (.int .i64 1)]⟩,
 ⟨some 30, some (25, true), .idxA 10, [.t 27, .t 29]⟩,
 ⟨some 31, some (25, true), .load (some 10), [.t 30]⟩,
 ⟨some 32, some (25, true), .fldA 0, [.t 1]⟩,
 ⟨some 33, some (25, true), .load none, [.t 32]⟩,
 ⟨some 34, some (25, true), .mov, [.t 3]⟩,
 ⟨some 35, some (25, true), .idxA 10, [.t 33, .t 34]⟩,
 ⟨some 36, some (25, true), .load (some 10), [.t 35]⟩,
 ⟨some 37, some (25, true), .call 15, [.t 31, .t 36]⟩,
 ⟨some 38, some (25, true), .unNot, [.t 37]⟩,
 ⟨some 39, some (22, false), .pick, [.t 25, .t 38, .c (.bool false)]⟩,
 ⟨some 40, none, .pick, [.t 22, .c (.bool true), .t 39]⟩])
 (.cond (.t 40)
 (.seq (.reg []
 [⟨some 2, none, .mov, [.c (.bool false)]⟩])
 .ret)
 .skip)))
 (.reg []
 [⟨some 13, none, .mov, [.t 3]⟩,
 ⟨some 14, none, .bin .add .scal, [.t 13, .c (.int .i64 1)]⟩,
 ⟨some 3, none, .mov, [.t 14]⟩]))
/-- "crossroads/crossroadsref25.MayAll": 41 temporaries, 1 parameters, results some [.t 2]. -/
def ac12 : AC :=
 .seq (.reg []
 [⟨some 1, none, .box, [.t 0]⟩,
 ⟨some 2, none, .mov, [.c (.bool false)]⟩])
 (.seq (.seq (.reg []
 [⟨some 4, none, .fldA 0, [.t 1]⟩,
 ⟨some 5, none, .load none, [.t 4]⟩,
 ⟨some 6, none, .lenL, [.t 5]⟩,
 ⟨some 7, none, .bin .gtr .scal, [.t 6, .c (.int .i64 500)]⟩])
 (.cond (.t 7)
 (.seq (.reg []
 [⟨some 2, none, .mov, [.c (.bool false)]⟩])
 .ret)
 .skip))
 (.seq (.seq (.reg []
 [⟨some 3, none, .mov, [.c (.int .i64 0)]⟩])
 (.block 0 (.loop ac12_1)))
 (.seq (.reg []
 [⟨some 2, none, .mov, [.c (.bool true)]⟩])
 .ret)))
theorem i12 : fnInfo Try.prog 12 = some (41, [.t 2], ac12) := by kernel_rfl
/-- "crossroads/crossroadslaw25.table": 7 temporaries, 1 parameters, results some [.c 2 (some 1)]. -/
def ac13 : AC :=
 .seq (.reg []
 [⟨some 1, none, .box, [.t 0]⟩,
 ⟨some 2, none, .alloc [.nils], []⟩])
 (.seq (.reg []
 [⟨some 3, none, .fldA 0, [.t 1]⟩,
 ⟨some 4, none, .load none, [.t 3]⟩,
 ⟨some 5, none, .call 25, [.t 4]⟩,
 ⟨some 6, none, .build [.nils] [(0, 1)], [.t 5]⟩,
 ⟨none, none, .store 1, [.t 2, .t 6]⟩])
 .ret)
theorem i13 : fnInfo Try.prog 13 = some (7, [.c 2 (some 1)], ac13) := by kernel_rfl
/-- "crossroads/rib.Less": 9 temporaries, 2 parameters, results some [.t 4]. -/
def ac14 : AC :=
 .seq (.reg []
 [⟨some 2, none, .box, [.t 0]⟩,
 ⟨some 3, none, .box, [.t 1]⟩,
 ⟨some 4, none, .mov, [.c (.bool false)]⟩])
 (.seq (.reg []
 [⟨some 5, none, .load (some 10), [.t 2]⟩,
 ⟨some 6, none, .load (some 10), [.t 3]⟩,
 ⟨some 7, none, .call 31, [.t 5, .t 6]⟩,
 ⟨some 8, none, .bin .lss .scal, [.t 7, .c (.int .i64 0)]⟩,
 ⟨some 4, none, .mov, [.t 8]⟩])
 .ret)
theorem i14 : fnInfo Try.prog 14 = some (9, [.t 4], ac14) := by kernel_rfl
/-- "crossroads/crossroadsref25.Less": 11 temporaries, 2 parameters, results some [.t 4]. -/
def ac15 : AC :=
 .seq (.reg []
 [⟨some 2, none, .box, [.t 0]⟩,
 ⟨some 3, none, .box, [.t 1]⟩,
 ⟨some 4, none, .mov, [.c (.bool false)]⟩])
 (.seq (.reg [[], [0], [], [2, 1], [1, 3, 3], [4], [5, 4, 0, 1, 2, 3, 4, 5]]
 [⟨some 5, none, .load (some 10), [.t 2]⟩,
 ⟨some 6, none, .call 33, [.t 5]⟩,
 ⟨some 7, none, .load (some 10), [.t 3]⟩,
 ⟨some 8, none, .call 33, [.t 7]⟩,
 ⟨some 9, none, .call 32, [.t 6, .t 8]⟩,
 ⟨some 10, none, .bin .lss .scal, [.t 9, .c (.int .i64 0)]⟩,
 ⟨some 4, none, .mov, [.t 10]⟩])
 .ret)
theorem i15 : fnInfo Try.prog 15 = some (11, [.t 4], ac15) := by kernel_rfl
/-- "crossroads/rib.Better": 9 temporaries, 2 parameters, results some [.t 4]. -/
def ac16 : AC :=
 .seq (.reg []
 [⟨some 2, none, .box, [.t 0]⟩,
 ⟨some 3, none, .box, [.t 1]⟩,
 ⟨some 4, none, .mov, [.c (.bool false)]⟩])
 (.seq (.reg []
 [⟨some 5, none, .load (some 10), [.t 2]⟩,
 ⟨some 6, none, .load (some 10), [.t 3]⟩,
 ⟨some 7, none, .call 34, [.t 5, .t 6]⟩,
 ⟨some 8, none, .bin .lss .scal, [.t 7, .c (.int .i64 0)]⟩,
 ⟨some 4, none, .mov, [.t 8]⟩])
 .ret)
theorem i16 : fnInfo Try.prog 16 = some (9, [.t 4], ac16) := by kernel_rfl
/-- "crossroads/crossroadsref25.Better": 11 temporaries, 2 parameters, results some [.t 4]. -/
def ac17 : AC :=
 .seq (.reg []
 [⟨some 2, none, .box, [.t 0]⟩,
 ⟨some 3, none, .box, [.t 1]⟩,
 ⟨some 4, none, .mov, [.c (.bool false)]⟩])
 (.seq (.reg [[], [0], [], [2, 1], [1, 3, 3], [4], [5, 4, 0, 1, 2, 3, 4, 5]]
 [⟨some 5, none, .load (some 10), [.t 2]⟩,
 ⟨some 6, none, .call 35, [.t 5]⟩,
 ⟨some 7, none, .load (some 10), [.t 3]⟩,
 ⟨some 8, none, .call 35, [.t 7]⟩,
 ⟨some 9, none, .call 32, [.t 6, .t 8]⟩,
 ⟨some 10, none, .bin .lss .scal, [.t 9, .c (.int .i64 0)]⟩,
 ⟨some 4, none, .mov, [.t 10]⟩])
 .ret)
theorem i17 : fnInfo Try.prog 17 = some (11, [.t 4], ac17) := by kernel_rfl
def ac18_1 : AC :=
 .seq (.reg []
 [⟨some 14, none, .bin .lss .scal, [.t 13, .t 12]⟩])
 (.seq (.cond (.t 14)
 .skip
 (.exit 0))
 (.seq (.block 1 (.seq (.reg []
 [⟨some 15, none, .idxA 10, [.t 11, .t 13]⟩,
 ⟨some 16, none, .load (some 10), [.t 15]⟩,
 ⟨some 9, none, .alloc [.int .u32 0, .int .i64 0, .int .i64 0, .int .i64 0, .int .i64 0, .int .i64 0, .int .u32 0, .bool false, .int .i64 0, .nils], []⟩,
 ⟨none, none, .store 10, [.t 9, .t 16]⟩])
 (.seq (.reg []
 [⟨some 17, none, .fldA 0, [.t 9]⟩,
 ⟨some 18, none, .load (some 2), [.t 17]⟩,
 ⟨some 19, none, .mov, [.t 1]⟩,
 ⟨some 20, none, .call 37, [.t 18, .t 19]⟩,
 ⟨some 21, none, .mov, [.t 20]⟩,
 ⟨some 22, some (21, true), .mov, [.t 7]⟩,
 ⟨some 23, some (21, true), .unNot, [.t 22]⟩,
 ⟨some 24, some (21, true), .mov, [.t 23]⟩,
 ⟨some 25, some (24, false), .fldA 0, [.t 9]⟩,
 ⟨some 26, some (24, false), .fldA 1, [.t 25]⟩,
 ⟨some 27, some (24, false), .load none, [.t 26]⟩,
 ⟨some 28, some (24, false), .fldA 0, [.t 6]⟩,
 ⟨some 29, some (24, false), .fldA 1, [.t 28]⟩,
 ⟨some 30, some (24, false), .load none, [.t 29]⟩,
 ⟨some 31, some (24, false), .bin .gtr .scal, [.t 27, .t 30]⟩,
 ⟨some 32, some (21, true), .pick, [.t 24, .c (.bool true), .t 31]⟩,
 ⟨some 33, none, .pick, [.t 21, .t 32, .c (.bool false)]⟩])
 (.cond (.t 33)
 (.reg []
 [⟨some 34, none, .load (some 10), [.t 9]⟩,
 ⟨none, none, .store 10, [.t 6, .t 34]⟩,
 ⟨some 7, none, .mov, [.c (.bool true)]⟩])
 .skip))))
 (.reg []
 [⟨some 35, none, .bin .add .scal, [.t 13, .c (.int .i64 1)]⟩,
 ⟨some 13, none, .mov, [.t 35]⟩])))
/-- "crossroads/rib.Find": 38 temporaries, 2 parameters, results some [.c 4 (some 10), .t 5]. -/
def ac18 : AC :=
 .seq (.reg []
 [⟨some 2, none, .box, [.t 0]⟩,
 ⟨some 4, none, .alloc [.int .u32 0, .int .i64 0, .int .i64 0, .int .i64 0, .int .i64 0, .int .i64 0, .int .u32 0, .bool false, .int .i64 0, .nils], []⟩,
 ⟨some 5, none, .mov, [.c (.bool false)]⟩])
 (.seq (.reg []
 [⟨some 6, none, .alloc [.int .u32 0, .int .i64 0, .int .i64 0, .int .i64 0, .int .i64 0, .int .i64 0, .int .u32 0, .bool false, .int .i64 0, .nils], []⟩])
 (.seq (.reg []
 [⟨some 7, none, .mov, [.c (.bool false)]⟩])
 (.seq (.seq (.reg []
 [⟨some 10, none, .load (some 1), [.t 2]⟩,
 ⟨some 11, none, .call 36, [.t 10]⟩,
 ⟨some 12, none, .lenL, [.t 11]⟩,
 ⟨some 13, none, .mov, [.c (.int .i64 0)]⟩])
 (.block 0 (.loop ac18_1)))
 (.seq (.reg []
 [⟨some 36, none, .load (some 10), [.t 6]⟩,
 ⟨some 37, none, .mov, [.t 7]⟩,
 ⟨none, none, .store 10, [.t 4, .t 36]⟩,
 ⟨some 5, none, .mov, [.t 37]⟩])
 .ret))))
theorem i18 : fnInfo Try.prog 18 = some (38, [.c 4 (some 10), .t 5], ac18) := by kernel_rfl
def ac19_1 : AC :=
 .seq (.reg []
 [⟨some 23, none, .bin .lss .scal, [.t 22, .t 21]⟩])
 (.seq (.cond (.t 23)
 .skip
 (.exit 0))
 (.seq (.block 1 (.seq (.reg []
 [⟨some 24, none, .idxA 2, [.t 20, .t 22]⟩,
 ⟨some 25, none, .load (some 2), [.t 24]⟩,
 ⟨some 8, none, .alloc [.int .i64 0, .int .u32 0], []⟩,
 ⟨none, none, .store 2, [.t 8, .t 25]⟩])
 (.seq (.reg []
 [⟨some 27, none, .load (some 1), [.t 2]⟩,
 ⟨some 28, none, .load (some 2), [.t 8]⟩,
 ⟨some 29, none, .call 38, [.t 27, .t 28]⟩,
 ⟨some 26, none, .mov, [.t 29]⟩,
 ⟨some 30, none, .ext 0, [.t 26]⟩,
 ⟨some 31, none, .ext 1, [.t 26]⟩,
 ⟨some 9, none, .alloc [.int .i64 0, .int .u32 0], []⟩,
 ⟨none, none, .store 2, [.t 9, .t 30]⟩,
 ⟨some 10, none, .mov, [.t 31]⟩])
 (.seq (.reg []
 [⟨some 32, none, .mov, [.t 10]⟩])
 (.cond (.t 32)
 (.reg []
 [⟨some 33, none, .mov, [.t 6]⟩,
 ⟨some 34, none, .load (some 2), [.t 9]⟩,
 ⟨some 35, none, .bslice 2 61, [.t 34]⟩,
 ⟨some 36, none, .append 2 61 16, [.t 33, .t 35]⟩,
 ⟨some 6, none, .mov, [.t 36]⟩])
 .skip)))))
 (.reg []
 [⟨some 37, none, .bin .add .scal, [.t 22, .c (.int .i64 1)]⟩,
 ⟨some 22, none, .mov, [.t 37]⟩])))
/-- "crossroads/rib.Lives": 45 temporaries, 2 parameters, results some [.c 4 (some 10), .t 5]. -/
def ac19 : AC :=
 .seq (.reg []
 [⟨some 2, none, .box, [.t 0]⟩,
 ⟨some 3, none, .box, [.t 1]⟩,
 ⟨some 4, none, .alloc [.int .u32 0, .int .i64 0, .int .i64 0, .int .i64 0, .int .i64 0, .int .i64 0, .int .u32 0, .bool false, .int .i64 0, .nils], []⟩,
 ⟨some 5, none, .mov, [.c (.bool false)]⟩])
 (.seq (.seq (.reg []
 [⟨some 11, none, .fldA 2, [.t 3]⟩,
 ⟨some 12, none, .load none, [.t 11]⟩,
 ⟨some 13, none, .bin .neq .scal, [.t 12, .c (.int .i64 1)]⟩,
 ⟨some 14, none, .mov, [.t 13]⟩,
 ⟨some 15, some (14, false), .fldA 7, [.t 3]⟩,
 ⟨some 16, some (14, false), .load none, [.t 15]⟩,
 ⟨some 17, none, .pick, [.t 14, .c (.bool true), .t 16]⟩])
 (.cond (.t 17)
 (.seq (.reg []
 [⟨some 18, none, .load (some 10), [.t 3]⟩,
 ⟨none, none, .store 10, [.t 4, .t 18]⟩,
 ⟨some 5, none, .mov, [.c (.bool true)]⟩])
 .ret)
 .skip))
 (.seq (.reg []
 [⟨some 6, none, .mov, [.c .nils]⟩])
 (.seq (.seq (.reg []
 [⟨some 19, none, .fldA 9, [.t 3]⟩,
 ⟨some 20, none, .load none, [.t 19]⟩,
 ⟨some 21, none, .lenL, [.t 20]⟩,
 ⟨some 22, none, .mov, [.c (.int .i64 0)]⟩])
 (.block 0 (.loop ac19_1)))
 (.seq (.seq (.reg []
 [⟨some 38, none, .mov, [.t 6]⟩,
 ⟨some 39, none, .lenL, [.t 38]⟩,
 ⟨some 40, none, .bin .eql .scal, [.t 39, .c (.int .i64 0)]⟩])
 (.cond (.t 40)
 (.seq (.reg []
 [⟨some 41, none, .build [.int .u32 0, .int .i64 0, .int .i64 0, .int .i64 0, .int .i64 0, .int .i64 0, .int .u32 0, .bool false, .int .i64 0, .nils] [], []⟩,
 ⟨none, none, .store 10, [.t 4, .t 41]⟩,
 ⟨some 5, none, .mov, [.c (.bool false)]⟩])
 .ret)
 .skip))
 (.seq (.reg []
 [⟨some 42, none, .mov, [.t 6]⟩,
 ⟨some 43, none, .fldA 9, [.t 3]⟩,
 ⟨none, none, .store 1, [.t 43, .t 42]⟩])
 (.seq (.reg []
 [⟨some 44, none, .load (some 10), [.t 3]⟩,
 ⟨none, none, .store 10, [.t 4, .t 44]⟩,
 ⟨some 5, none, .mov, [.c (.bool true)]⟩])
 .ret))))))
theorem i19 : fnInfo Try.prog 19 = some (45, [.c 4 (some 10), .t 5], ac19) := by kernel_rfl
/-- "crossroads/rib.Put": 41 temporaries, 2 parameters, results some [.c 4 (some 1), .t 5]. -/
def ac23 : AC :=
 .seq (.reg []
 [⟨some 2, none, .box, [.t 0]⟩,
 ⟨some 3, none, .box, [.t 1]⟩,
 ⟨some 4, none, .alloc [.nils], []⟩,
 ⟨some 5, none, .mov, [.c (.int .i64 0)]⟩])
 (.seq (.seq (.reg []
 [⟨some 9, none, .load (some 10), [.t 3]⟩,
 ⟨some 10, none, .call 8, [.t 9]⟩,
 ⟨some 11, none, .unNot, [.t 10]⟩])
 (.cond (.t 11)
 (.seq (.reg []
 [⟨some 12, none, .load (some 1), [.t 2]⟩,
 ⟨none, none, .store 1, [.t 4, .t 12]⟩,
 ⟨some 5, none, .mov, [.c (.int .i64 1)]⟩])
 .ret)
 .skip))
 (.seq (.reg []
 [⟨some 14, none, .fldA 0, [.t 2]⟩,
 ⟨some 15, none, .load none, [.t 14]⟩,
 ⟨some 16, none, .load (some 10), [.t 3]⟩,
 ⟨some 17, none, .call 43, [.t 15, .t 16, .f 31]⟩,
 ⟨some 13, none, .mov, [.t 17]⟩,
 ⟨some 18, none, .ext 0, [.t 13]⟩,
 ⟨some 19, none, .ext 1, [.t 13]⟩,
 ⟨some 6, none, .mov, [.t 18]⟩,
 ⟨some 7, none, .mov, [.t 19]⟩])
 (.seq (.reg []
 [⟨some 20, none, .fldA 0, [.t 2]⟩,
 ⟨some 21, none, .load none, [.t 20]⟩,
 ⟨some 22, none, .call 44, [.t 21]⟩,
 ⟨some 8, none, .mov, [.t 22]⟩])
 (.seq (.block 0 (.seq (.reg []
 [⟨some 29, none, .mov, [.t 7]⟩,
 ⟨some 28, none, .mov, [.t 29]⟩])
 (.cond (.t 28)
 (.reg []
 [⟨some 30, none, .mov, [.t 8]⟩,
 ⟨some 31, none, .mov, [.t 6]⟩,
 ⟨some 32, none, .load (some 10), [.t 3]⟩,
 ⟨some 33, none, .idxA 10, [.t 30, .t 31]⟩,
 ⟨none, none, .store 10, [.t 33, .t 32]⟩])
 (.seq (.reg []
 [⟨some 35, none, .mov, [.t 8]⟩,
 ⟨some 36, none, .lenL, [.t 35]⟩,
 ⟨some 37, none, .bin .geq .scal, [.t 36, .c (.int .i64 500)]⟩,
 ⟨some 34, none, .mov, [.t 37]⟩])
 (.cond (.t 34)
 (.seq (.reg []
 [⟨some 38, none, .load (some 1), [.t 2]⟩,
 ⟨none, none, .store 1, [.t 4, .t 38]⟩,
 ⟨some 5, none, .mov, [.c (.int .i64 8)]⟩])
 .ret)
 (.reg []
 [⟨some 23, none, .mov, [.t 8]⟩,
 ⟨some 24, none, .mov, [.t 6]⟩,
 ⟨some 25, none, .load (some 10), [.t 3]⟩,
 ⟨some 26, none, .bslice 10 28, [.t 25]⟩,
 ⟨some 27, none, .call 45, [.t 23, .t 24, .t 26]⟩,
 ⟨some 8, none, .mov, [.t 27]⟩]))))))
 (.seq (.reg []
 [⟨some 39, none, .mov, [.t 8]⟩,
 ⟨some 40, none, .build [.nils] [(0, 1)], [.t 39]⟩,
 ⟨none, none, .store 1, [.t 4, .t 40]⟩,
 ⟨some 5, none, .mov, [.c (.int .i64 0)]⟩])
 .ret)))))
theorem i23 : fnInfo Try.prog 23 = some (41, [.c 4 (some 1), .t 5], ac23) := by kernel_rfl
def ac25_1 : AC :=
 .seq (.seq (.reg []
 [⟨some 6, none, .mov, [.t 4]⟩,
 ⟨some 7, none, .mov, [.t 0]⟩,
 ⟨some 8, none, .lenL, [.t 7]⟩,
 ⟨some 9, none, .bin .lss .scal, [.t 6, .t 8]⟩])
 (.cond (.t 9)
 .skip
 (.exit 0)))
 (.seq (.block 1 (.reg []
 [⟨some 12, none, .mov, [.t 3]⟩,
 ⟨some 13, none, .mov, [.t 0]⟩,
 ⟨some 14, none, .mov, [.t 4]⟩,
 ⟨some 15, none, .idxA 10, [.t 13, .t 14]⟩,
 ⟨some 16, none, .load (some 10), [.t 15]⟩,
 ⟨some 17, none, .call 10, [.t 16]⟩,
 ⟨some 18, none, .bslice 10 37, [.t 17]⟩,
 ⟨some 19, none, .append 10 37 88, [.t 12, .t 18]⟩,
 ⟨some 3, none, .mov, [.t 19]⟩]))
 (.reg []
 [⟨some 10, none, .mov, [.t 4]⟩,
 ⟨some 11, none, .bin .add .scal, [.t 10, .c (.int .i64 1)]⟩,
 ⟨some 4, none, .mov, [.t 11]⟩]))
/-- "crossroads/crossroadslaw25.rows": 21 temporaries, 1 parameters, results some [.t 2]. -/
def ac25 : AC :=
 .seq (.reg []
 [⟨some 2, none, .mov, [.c .nils]⟩])
 (.seq (.reg []
 [⟨some 5, none, .bslice 10 37, []⟩,
 ⟨some 3, none, .mov, [.t 5]⟩])
 (.seq (.seq (.reg []
 [⟨some 4, none, .mov, [.c (.int .i64 0)]⟩])
 (.block 0 (.loop ac25_1)))
 (.seq (.reg []
 [⟨some 20, none, .mov, [.t 3]⟩,
 ⟨some 2, none, .mov, [.t 20]⟩])
 .ret)))
theorem i25 : fnInfo Try.prog 25 = some (21, [.t 2], ac25) := by kernel_rfl
/-- "crossroads/rib.isIn": 15 temporaries, 3 parameters, results some [.t 6]. -/
def ac26 : AC :=
 .seq (.reg []
 [⟨some 6, none, .mov, [.c (.bool false)]⟩])
 (.seq (.reg []
 [⟨some 7, none, .mov, [.t 1]⟩,
 ⟨some 8, none, .mov, [.t 0]⟩,
 ⟨some 9, none, .bin .leq .scal, [.t 7, .t 8]⟩,
 ⟨some 10, none, .mov, [.t 9]⟩,
 ⟨some 11, some (10, true), .mov, [.t 0]⟩,
 ⟨some 12, some (10, true), .mov, [.t 2]⟩,
 ⟨some 13, some (10, true), .bin .leq .scal, [.t 11, .t 12]⟩,
 ⟨some 14, none, .pick, [.t 10, .t 13, .c (.bool false)]⟩,
 ⟨some 6, none, .mov, [.t 14]⟩])
 .ret)
theorem i26 : fnInfo Try.prog 26 = some (15, [.t 6], ac26) := by kernel_rfl
/-- "crossroads/addr.May": 15 temporaries, 1 parameters, results some [.t 2]. -/
def ac27 : AC :=
 .seq (.reg []
 [⟨some 1, none, .box, [.t 0]⟩,
 ⟨some 2, none, .mov, [.c (.bool false)]⟩])
 (.seq (.reg [[], [0], [1], [2, 2], [3], [4, 3], [3], [6, 3], [7, 3, 3], [5, 8, 3], [9, 3], [3, 10], [11, 8, 0, 1, 2, 3, 4, 5, 6, 7, 8, 9, 10, 11]]
 [⟨some 3, none, .fldA 1, [.t 1]⟩,
 ⟨some 4, none, .load none, [.t 3]⟩,
 ⟨some 5, none, .call 46, [.t 4]⟩,
 ⟨some 6, none, .mov, [.t 5]⟩,
 ⟨some 7, some (6, true), .fldA 0, [.t 1]⟩,
 ⟨some 8, some (6, true), .load none, [.t 7]⟩,
 ⟨some 9, some (6, true), .fldA 1, [.t 1]⟩,
 ⟨some 10, some (6, true), .load none, [.t 9]⟩,
 ⟨some 11, some (6, true), .call 47, [.t 10]⟩,
 ⟨some 12, some (6, true), .bin .andNot .scal, [.t 8, .t 11]⟩,
 ⟨some 13, some (6, true), .bin .eql .scal, [.t 12, .c (.int .u32 0)]⟩,
 ⟨some 14, none, .pick, [.t 6, .t 13, .c (.bool false)]⟩,
 ⟨some 2, none, .mov, [.t 14]⟩])
 .ret)
theorem i27 : fnInfo Try.prog 27 = some (15, [.t 2], ac27) := by kernel_rfl
def ac28_1 : AC :=
 .seq (.seq (.reg []
 [⟨some 14, none, .mov, [.t 3]⟩,
 ⟨some 15, none, .bin .lss .scal, [.t 14, .c (.int .i64 32)]⟩])
 (.cond (.t 15)
 .skip
 (.exit 0)))
 (.seq (.block 1 (.seq (.reg []
 [⟨some 18, none, .fldA 0, [.t 1]⟩,
 ⟨some 19, none, .load none, [.t 18]⟩,
 ⟨some 20, none, .mov, [.t 3]⟩,
 ⟨some 21, none, .call 39, [.t 19, .t 20]⟩,
 ⟨some 22, none, .bin .eql .scal, [.t 21, .c (.int .i64 1)]⟩])
 (.cond (.t 22)
 (.seq (.reg []
 [⟨some 2, none, .mov, [.c (.bool false)]⟩])
 .ret)
 .skip)))
 (.reg []
 [⟨some 16, none, .mov, [.t 3]⟩,
 ⟨some 17, none, .bin .add .scal, [.t 16, .c (.int .i64 1)]⟩,
 ⟨some 3, none, .mov, [.t 17]⟩]))
/-- "crossroads/crossroadsref03.May": 23 temporaries, 1 parameters, results some [.t 2]. -/
def ac28 : AC :=
 .seq (.reg []
 [⟨some 1, none, .box, [.t 0]⟩,
 ⟨some 2, none, .mov, [.c (.bool false)]⟩])
 (.seq (.seq (.reg []
 [⟨some 4, none, .fldA 1, [.t 1]⟩,
 ⟨some 5, none, .load none, [.t 4]⟩,
 ⟨some 6, none, .bin .lss .scal, [.t 5, .c (.int .i64 0)]⟩,
 ⟨some 7, none, .mov, [.t 6]⟩,
 ⟨some 8, some (7, false), .fldA 1, [.t 1]⟩,
 ⟨some 9, some (7, false), .load none, [.t 8]⟩,
 ⟨some 10, some (7, false), .bin .gtr .scal, [.t 9, .c (.int .i64 32)]⟩,
 ⟨some 11, none, .pick, [.t 7, .c (.bool true), .t 10]⟩])
 (.cond (.t 11)
 (.seq (.reg []
 [⟨some 2, none, .mov, [.c (.bool false)]⟩])
 .ret)
 .skip))
 (.seq (.seq (.reg []
 [⟨some 12, none, .fldA 1, [.t 1]⟩,
 ⟨some 13, none, .load none, [.t 12]⟩,
 ⟨some 3, none, .mov, [.t 13]⟩])
 (.block 0 (.loop ac28_1)))
 (.seq (.reg []
 [⟨some 2, none, .mov, [.c (.bool true)]⟩])
 .ret)))
theorem i28 : fnInfo Try.prog 28 = some (23, [.t 2], ac28) := by kernel_rfl
/-- "crossroads/crossroadsref25.in": 15 temporaries, 3 parameters, results some [.t 6]. -/
def ac29 : AC :=
 .seq (.reg []
 [⟨some 6, none, .mov, [.c (.bool false)]⟩])
 (.seq (.reg []
 [⟨some 7, none, .mov, [.t 0]⟩,
 ⟨some 8, none, .mov, [.t 1]⟩,
 ⟨some 9, none, .bin .geq .scal, [.t 7, .t 8]⟩,
 ⟨some 10, none, .mov, [.t 9]⟩,
 ⟨some 11, some (10, true), .mov, [.t 0]⟩,
 ⟨some 12, some (10, true), .mov, [.t 2]⟩,
 ⟨some 13, some (10, true), .bin .leq .scal, [.t 11, .t 12]⟩,
 ⟨some 14, none, .pick, [.t 10, .t 13, .c (.bool false)]⟩,
 ⟨some 6, none, .mov, [.t 14]⟩])
 .ret)
theorem i29 : fnInfo Try.prog 29 = some (15, [.t 6], ac29) := by kernel_rfl
/-- "crossroads/crossroadslaw25.hop": 8 temporaries, 1 parameters, results some [.c 2 (some 2)]. -/
def ac30 : AC :=
 .seq (.reg []
 [⟨some 1, none, .box, [.t 0]⟩,
 ⟨some 2, none, .alloc [.int .i64 0, .int .u32 0], []⟩])
 (.seq (.reg []
 [⟨some 3, none, .fldA 0, [.t 1]⟩,
 ⟨some 4, none, .load none, [.t 3]⟩,
 ⟨some 5, none, .fldA 1, [.t 1]⟩,
 ⟨some 6, none, .load none, [.t 5]⟩,
 ⟨some 7, none, .build [.int .i64 0, .int .u32 0] [(0, 1), (1, 1)], [.t 4, .t 6]⟩,
 ⟨none, none, .store 2, [.t 2, .t 7]⟩])
 .ret)
theorem i30 : fnInfo Try.prog 30 = some (8, [.c 2 (some 2)], ac30) := by kernel_rfl
/-- "crossroads/rib.byKey": 41 temporaries, 2 parameters, results some [.t 4]. -/
def ac31 : AC :=
 .seq (.reg []
 [⟨some 2, none, .box, [.t 0]⟩,
 ⟨some 3, none, .box, [.t 1]⟩,
 ⟨some 4, none, .mov, [.c (.int .i64 0)]⟩])
 (.seq (.reg [[], [0], [1], [], [3], [4], [2, 5], [], [7], [8], [], [10], [11], [9, 12, 6], [], [14, 13], [], [16, 15], [15, 17], [], [19], [], [21], [20, 22, 17], [], [24], [], [26], [25, 27, 23], [], [29], [], [31], [30, 32, 28], [6, 13, 18, 23, 28, 33], [34, 33], [35, 35, 0, 1, 2, 3, 4, 5, 6, 7, 8, 9, 10, 11, 12, 13, 14, 15, 16, 17, 18, 19, 20, 21, 22, 23, 24, 25, 26, 27, 28, 29, 30, 31, 32, 33, 34, 35]]
 [⟨some 5, none, .fldA 0, [.t 2]⟩,
 ⟨some 6, none, .fldA 0, [.t 5]⟩,
 ⟨some 7, none, .load none, [.t 6]⟩,
 ⟨some 8, none, .fldA 0, [.t 3]⟩,
 ⟨some 9, none, .fldA 0, [.t 8]⟩,
 ⟨some 10, none, .load none, [.t 9]⟩,
 ⟨some 11, none, .call 49, [.t 7, .t 10]⟩,
 ⟨some 12, none, .fldA 0, [.t 2]⟩,
 ⟨some 13, none, .fldA 1, [.t 12]⟩,
 ⟨some 14, none, .load none, [.t 13]⟩,
 ⟨some 15, none, .fldA 0, [.t 3]⟩,
 ⟨some 16, none, .fldA 1, [.t 15]⟩,
 ⟨some 17, none, .load none, [.t 16]⟩,
 ⟨some 18, none, .call 50, [.t 14, .t 17]⟩,
 ⟨some 19, none, .load (some 10), [.t 2]⟩,
 ⟨some 20, none, .call 51, [.t 19]⟩,
 ⟨some 21, none, .load (some 10), [.t 3]⟩,
 ⟨some 22, none, .call 51, [.t 21]⟩,
 ⟨some 23, none, .bin .sub .scal, [.t 20, .t 22]⟩,
 ⟨some 24, none, .fldA 8, [.t 2]⟩,
 ⟨some 25, none, .load none, [.t 24]⟩,
 ⟨some 26, none, .fldA 8, [.t 3]⟩,
 ⟨some 27, none, .load none, [.t 26]⟩,
 ⟨some 28, none, .call 50, [.t 25, .t 27]⟩,
 ⟨some 29, none, .fldA 2, [.t 2]⟩,
 ⟨some 30, none, .load none, [.t 29]⟩,
 ⟨some 31, none, .fldA 2, [.t 3]⟩,
 ⟨some 32, none, .load none, [.t 31]⟩,
 ⟨some 33, none, .call 50, [.t 30, .t 32]⟩,
 ⟨some 34, none, .fldA 3, [.t 2]⟩,
 ⟨some 35, none, .load none, [.t 34]⟩,
 ⟨some 36, none, .fldA 3, [.t 3]⟩,
 ⟨some 37, none, .load none, [.t 36]⟩,
 ⟨some 38, none, .call 50, [.t 35, .t 37]⟩,
 ⟨some 39, none, .bslice 1 3, [.t 11, .t 18, .t 23, .t 28, .t 33, .t 38]⟩,
 ⟨some 40, none, .call 48, [.t 39]⟩,
 ⟨some 4, none, .mov, [.t 40]⟩])
 .ret)
theorem i31 : fnInfo Try.prog 31 = some (41, [.t 4], ac31) := by kernel_rfl
def ac32_1 : AC :=
 .seq (.seq (.reg []
 [⟨some 6, none, .mov, [.t 5]⟩,
 ⟨some 7, none, .bin .lss .scal, [.t 6, .c (.int .i64 6)]⟩])
 (.cond (.t 7)
 .skip
 (.exit 0)))
 (.seq (.block 1 (.seq (.seq (.reg [[], [0], [1], [], [3], [4], [2, 5]]
 [⟨some 10, none, .mov, [.t 5]⟩,
 ⟨some 11, none, .idxAA 6 1, [.t 2, .t 10]⟩,
 ⟨some 12, none, .load none, [.t 11]⟩,
 ⟨some 13, none, .mov, [.t 5]⟩,
 ⟨some 14, none, .idxAA 6 1, [.t 3, .t 13]⟩,
 ⟨some 15, none, .load none, [.t 14]⟩,
 ⟨some 16, none, .bin .lss .scal, [.t 12, .t 15]⟩])
 (.cond (.t 16)
 (.seq (.reg []
 [⟨some 4, none, .mov, [.c (.int .i64 (-1))]⟩])
 .ret)
 .skip))
 (.seq (.reg [[], [0], [1], [], [3], [4], [2, 5]]
 [⟨some 17, none, .mov, [.t 5]⟩,
 ⟨some 18, none, .idxAA 6 1, [.t 2, .t 17]⟩,
 ⟨some 19, none, .load none, [.t 18]⟩,
 ⟨some 20, none, .mov, [.t 5]⟩,
 ⟨some 21, none, .idxAA 6 1, [.t 3, .t 20]⟩,
 ⟨some 22, none, .load none, [.t 21]⟩,
 ⟨some 23, none, .bin .gtr .scal, [.t 19, .t 22]⟩])
 (.cond (.t 23)
 (.seq (.reg []
 [⟨some 4, none, .mov, [.c (.int .i64 1)]⟩])
 .ret)
 .skip))))
 (.reg []
 [⟨some 8, none, .mov, [.t 5]⟩,
 ⟨some 9, none, .bin .add .scal, [.t 8, .c (.int .i64 1)]⟩,
 ⟨some 5, none, .mov, [.t 9]⟩]))
/-- "crossroads/crossroadsref25.first": 24 temporaries, 2 parameters, results some [.t 4]. -/
def ac32 : AC :=
 .seq (.reg []
 [⟨some 2, none, .box, [.t 0]⟩,
 ⟨some 3, none, .box, [.t 1]⟩,
 ⟨some 4, none, .mov, [.c (.int .i64 0)]⟩])
 (.seq (.seq (.reg []
 [⟨some 5, none, .mov, [.c (.int .i64 0)]⟩])
 (.block 0 (.loop ac32_1)))
 (.seq (.reg []
 [⟨some 4, none, .mov, [.c (.int .i64 0)]⟩])
 .ret))
theorem i32 : fnInfo Try.prog 32 = some (24, [.t 4], ac32) := by kernel_rfl
/-- "crossroads/crossroadsref25.key": 20 temporaries, 1 parameters, results some [.c 2 (some 6)]. -/
def ac33 : AC :=
 .seq (.reg []
 [⟨some 1, none, .box, [.t 0]⟩,
 ⟨some 2, none, .alloc [.int .i64 0, .int .i64 0, .int .i64 0, .int .i64 0, .int .i64 0, .int .i64 0], []⟩])
 (.seq (.reg [[], [0], [1], [2], [], [4], [5], [], [7], [8], [], [10], [], [12], [], [14], [3, 6, 9, 11, 13, 15], [16, 9, 0, 1, 2, 3, 4, 5, 6, 7, 8, 9, 10, 11, 12, 13, 14, 15, 16]]
 [⟨some 3, none, .fldA 0, [.t 1]⟩,
 ⟨some 4, none, .fldA 0, [.t 3]⟩,
 ⟨some 5, none, .load none, [.t 4]⟩,
 ⟨some 6, none, .conv .i64, [.t 5]⟩,
 ⟨some 7, none, .fldA 0, [.t 1]⟩,
 ⟨some 8, none, .fldA 1, [.t 7]⟩,
 ⟨some 9, none, .load none, [.t 8]⟩,
 ⟨some 10, none, .fldA 7, [.t 1]⟩,
 ⟨some 11, none, .load none, [.t 10]⟩,
 ⟨some 12, none, .call 52, [.t 11]⟩,
 ⟨some 13, none, .fldA 8, [.t 1]⟩,
 ⟨some 14, none, .load none, [.t 13]⟩,
 ⟨some 15, none, .fldA 2, [.t 1]⟩,
 ⟨some 16, none, .load none, [.t 15]⟩,
 ⟨some 17, none, .fldA 3, [.t 1]⟩,
 ⟨some 18, none, .load none, [.t 17]⟩,
 ⟨some 19, none, .build [.int .i64 0, .int .i64 0, .int .i64 0, .int .i64 0, .int .i64 0, .int .i64 0] [(0, 1), (1, 1), (2, 1), (3, 1), (4, 1), (5, 1)], [.t 6, .t 9, .t 12, .t 14, .t 16, .t 18]⟩,
 ⟨none, none, .store 6, [.t 2, .t 19]⟩])
 .ret)
theorem i33 : fnInfo Try.prog 33 = some (20, [.c 2 (some 6)], ac33) := by kernel_rfl
/-- "crossroads/rib.byRank": 37 temporaries, 2 parameters, results some [.t 4]. -/
def ac34 : AC :=
 .seq (.reg []
 [⟨some 2, none, .box, [.t 0]⟩,
 ⟨some 3, none, .box, [.t 1]⟩,
 ⟨some 4, none, .mov, [.c (.int .i64 0)]⟩])
 (.seq (.reg [[], [0], [], [2], [1, 3], [], [5, 4], [], [7, 6], [6, 8], [], [10], [], [12], [11, 13, 8], [], [15], [], [17], [16, 18, 14], [], [20], [], [22], [21, 23, 19], [], [25], [], [27], [26, 28, 24], [4, 9, 14, 19, 24, 29], [30, 29], [31, 31, 0, 1, 2, 3, 4, 5, 6, 7, 8, 9, 10, 11, 12, 13, 14, 15, 16, 17, 18, 19, 20, 21, 22, 23, 24, 25, 26, 27, 28, 29, 30, 31]]
 [⟨some 5, none, .fldA 4, [.t 2]⟩,
 ⟨some 6, none, .load none, [.t 5]⟩,
 ⟨some 7, none, .fldA 4, [.t 3]⟩,
 ⟨some 8, none, .load none, [.t 7]⟩,
 ⟨some 9, none, .call 50, [.t 6, .t 8]⟩,
 ⟨some 10, none, .load (some 10), [.t 2]⟩,
 ⟨some 11, none, .call 51, [.t 10]⟩,
 ⟨some 12, none, .load (some 10), [.t 3]⟩,
 ⟨some 13, none, .call 51, [.t 12]⟩,
 ⟨some 14, none, .bin .sub .scal, [.t 11, .t 13]⟩,
 ⟨some 15, none, .fldA 2, [.t 2]⟩,
 ⟨some 16, none, .load none, [.t 15]⟩,
 ⟨some 17, none, .fldA 2, [.t 3]⟩,
 ⟨some 18, none, .load none, [.t 17]⟩,
 ⟨some 19, none, .call 50, [.t 16, .t 18]⟩,
 ⟨some 20, none, .fldA 5, [.t 2]⟩,
 ⟨some 21, none, .load none, [.t 20]⟩,
 ⟨some 22, none, .fldA 5, [.t 3]⟩,
 ⟨some 23, none, .load none, [.t 22]⟩,
 ⟨some 24, none, .call 50, [.t 21, .t 23]⟩,
 ⟨some 25, none, .fldA 3, [.t 2]⟩,
 ⟨some 26, none, .load none, [.t 25]⟩,
 ⟨some 27, none, .fldA 3, [.t 3]⟩,
 ⟨some 28, none, .load none, [.t 27]⟩,
 ⟨some 29, none, .call 50, [.t 26, .t 28]⟩,
 ⟨some 30, none, .fldA 8, [.t 2]⟩,
 ⟨some 31, none, .load none, [.t 30]⟩,
 ⟨some 32, none, .fldA 8, [.t 3]⟩,
 ⟨some 33, none, .load none, [.t 32]⟩,
 ⟨some 34, none, .call 50, [.t 31, .t 33]⟩,
 ⟨some 35, none, .bslice 1 3, [.t 9, .t 14, .t 19, .t 24, .t 29, .t 34]⟩,
 ⟨some 36, none, .call 48, [.t 35]⟩,
 ⟨some 4, none, .mov, [.t 36]⟩])
 .ret)
theorem i34 : fnInfo Try.prog 34 = some (37, [.t 4], ac34) := by kernel_rfl
/-- "crossroads/crossroadsref25.rank": 17 temporaries, 1 parameters, results some [.c 2 (some 6)]. -/
def ac35 : AC :=
 .seq (.reg []
 [⟨some 1, none, .box, [.t 0]⟩,
 ⟨some 2, none, .alloc [.int .i64 0, .int .i64 0, .int .i64 0, .int .i64 0, .int .i64 0, .int .i64 0], []⟩])
 (.seq (.reg [[], [0], [], [2], [3], [], [5], [], [7], [], [9], [], [11], [1, 4, 6, 8, 10, 12], [13, 4, 0, 1, 2, 3, 4, 5, 6, 7, 8, 9, 10, 11, 12, 13]]
 [⟨some 3, none, .fldA 4, [.t 1]⟩,
 ⟨some 4, none, .load none, [.t 3]⟩,
 ⟨some 5, none, .fldA 7, [.t 1]⟩,
 ⟨some 6, none, .load none, [.t 5]⟩,
 ⟨some 7, none, .call 52, [.t 6]⟩,
 ⟨some 8, none, .fldA 2, [.t 1]⟩,
 ⟨some 9, none, .load none, [.t 8]⟩,
 ⟨some 10, none, .fldA 5, [.t 1]⟩,
 ⟨some 11, none, .load none, [.t 10]⟩,
 ⟨some 12, none, .fldA 3, [.t 1]⟩,
 ⟨some 13, none, .load none, [.t 12]⟩,
 ⟨some 14, none, .fldA 8, [.t 1]⟩,
 ⟨some 15, none, .load none, [.t 14]⟩,
 ⟨some 16, none, .build [.int .i64 0, .int .i64 0, .int .i64 0, .int .i64 0, .int .i64 0, .int .i64 0] [(0, 1), (1, 1), (2, 1), (3, 1), (4, 1), (5, 1)], [.t 4, .t 7, .t 9, .t 11, .t 13, .t 15]⟩,
 ⟨none, none, .store 6, [.t 2, .t 16]⟩])
 .ret)
theorem i35 : fnInfo Try.prog 35 = some (17, [.c 2 (some 6)], ac35) := by kernel_rfl
/-- "crossroads/rib.All": 41 temporaries, 1 parameters, results some [.t 2]. -/
def ac36 : AC :=
 .seq (.reg []
 [⟨some 1, none, .box, [.t 0]⟩,
 ⟨some 2, none, .mov, [.c .nils]⟩])
 (.seq (.reg []
 [⟨some 3, none, .alloc [.nils], []⟩])
 (.seq (.seq (.reg []
 [⟨some 6, none, .load (some 1), [.t 1]⟩,
 ⟨some 7, none, .call 53, [.t 6]⟩])
 (.block 0 .bad))
 (.seq (.reg []
 [⟨some 40, none, .load none, [.t 3]⟩,
 ⟨some 2, none, .mov, [.t 40]⟩])
 .ret)))
theorem i36 : fnInfo Try.prog 36 = some (41, [.t 2], ac36) := by kernel_rfl
/-- "crossroads/addr.Has": 17 temporaries, 2 parameters, results some [.t 4]. -/
def ac37 : AC :=
 .seq (.reg []
 [⟨some 2, none, .box, [.t 0]⟩,
 ⟨some 4, none, .mov, [.c (.bool false)]⟩])
 (.seq (.reg [[], [0], [1, 1], [2], [2], [4, 2], [5, 2, 2], [3, 6, 2], [2], [8, 2], [7, 9, 2], [2, 10], [11, 6, 0, 1, 2, 3, 4, 5, 6, 7, 8, 9, 10, 11]]
 [⟨some 5, none, .load (some 2), [.t 2]⟩,
 ⟨some 6, none, .call 27, [.t 5]⟩,
 ⟨some 7, none, .mov, [.t 6]⟩,
 ⟨some 8, some (7, true), .mov, [.t 1]⟩,
 ⟨some 9, some (7, true), .fldA 1, [.t 2]⟩,
 ⟨some 10, some (7, true), .load none, [.t 9]⟩,
 ⟨some 11, some (7, true), .call 47, [.t 10]⟩,
 ⟨some 12, some (7, true), .bin .and .scal, [.t 8, .t 11]⟩,
 ⟨some 13, some (7, true), .fldA 0, [.t 2]⟩,
 ⟨some 14, some (7, true), .load none, [.t 13]⟩,
 ⟨some 15, some (7, true), .bin .eql .scal, [.t 12, .t 14]⟩,
 ⟨some 16, none, .pick, [.t 7, .t 15, .c (.bool false)]⟩,
 ⟨some 4, none, .mov, [.t 16]⟩])
 .ret)
theorem i37 : fnInfo Try.prog 37 = some (17, [.t 4], ac37) := by kernel_rfl
def ac38_1 : AC :=
 .seq (.reg []
 [⟨some 17, none, .bin .lss .scal, [.t 16, .t 15]⟩])
 (.seq (.cond (.t 17)
 .skip
 (.exit 0))
 (.seq (.block 1 (.seq (.reg []
 [⟨some 18, none, .mov, [.t 16]⟩,
 ⟨some 19, none, .idxA 10, [.t 14, .t 16]⟩,
 ⟨some 20, none, .load (some 10), [.t 19]⟩,
 ⟨some 8, none, .alloc [.int .u32 0, .int .i64 0, .int .i64 0, .int .i64 0, .int .i64 0, .int .i64 0, .int .u32 0, .bool false, .int .i64 0, .nils], []⟩,
 ⟨some 7, none, .mov, [.t 18]⟩,
 ⟨none, none, .store 10, [.t 8, .t 20]⟩])
 (.seq (.reg [[], [0], [1], [2], [3], [4, 3], [5, 3], [3, 6], [7, 3], [8], [9, 8], [8], [11, 8], [10, 12, 8, 8], [8, 13], [14, 13], [15], [16, 15], [17, 15, 15], [18], [19, 18], [20, 18], [18], [22, 18], [18], [23, 24, 18], [25, 18], [26, 18], [27, 18], [21, 28, 18], [18, 29, 15], [15, 30]]
 [⟨some 21, none, .fldA 2, [.t 8]⟩,
 ⟨some 22, none, .load none, [.t 21]⟩,
 ⟨some 23, none, .bin .eql .scal, [.t 22, .c (.int .i64 0)]⟩,
 ⟨some 24, none, .mov, [.t 23]⟩,
 ⟨some 25, some (24, true), .fldA 7, [.t 8]⟩,
 ⟨some 26, some (24, true), .load none, [.t 25]⟩,
 ⟨some 27, some (24, true), .unNot, [.t 26]⟩,
 ⟨some 28, none, .pick, [.t 24, .t 27, .c (.bool false)]⟩,
 ⟨some 29, none, .mov, [.t 28]⟩,
 ⟨some 30, some (29, true), .fldA 0, [.t 8]⟩,
 ⟨some 31, some (29, true), .load (some 2), [.t 30]⟩,
 ⟨some 32, some (29, true), .fldA 1, [.t 3]⟩,
 ⟨some 33, some (29, true), .load none, [.t 32]⟩,
 ⟨some 34, some (29, true), .call 37, [.t 31, .t 33]⟩,
 ⟨some 35, none, .pick, [.t 29, .t 34, .c (.bool false)]⟩,
 ⟨some 36, none, .mov, [.t 35]⟩,
 ⟨some 37, some (36, true), .mov, [.t 6]⟩,
 ⟨some 38, some (36, true), .bin .lss .scal, [.t 37, .c (.int .i64 0)]⟩,
 ⟨some 39, some (36, true), .mov, [.t 38]⟩,
 ⟨some 40, some (39, false), .fldA 0, [.t 8]⟩,
 ⟨some 41, some (39, false), .fldA 1, [.t 40]⟩,
 ⟨some 42, some (39, false), .load none, [.t 41]⟩,
 ⟨some 43, some (39, false), .fldA 0, [.t 2]⟩,
 ⟨some 44, some (39, false), .load none, [.t 43]⟩,
 ⟨some 45, some (39, false), .mov, [.t 6]⟩,
 ⟨some 46, some (39, false), .idxA 10, [.t 44, .t 45]⟩,
 ⟨some 47, some (39, false), .fldA 0, [.t 46]⟩,
 ⟨some 48, some (39, false), .fldA 1, [.t 47]⟩,
 ⟨some 49, some (39, false), .load none, [.t 48]⟩,
 ⟨some 50, some (39, false), .bin .gtr .scal, [.t 42, .t 49]⟩,
 ⟨some 51, some (36, true), .pick, [.t 39, .c (.bool true), .t 50]⟩,
 ⟨some 52, none, .pick, [.t 36, .t 51, .c (.bool false)]⟩])
 (.cond (.t 52)
 (.reg []
 [⟨some 53, none, .mov, [.t 7]⟩,
 ⟨some 6, none, .mov, [.t 53]⟩])
 .skip))))
 (.reg []
 [⟨some 54, none, .bin .add .scal, [.t 16, .c (.int .i64 1)]⟩,
 ⟨some 16, none, .mov, [.t 54]⟩])))
/-- "crossroads/rib.Resolve": 70 temporaries, 2 parameters, results some [.c 4 (some 2), .t 5]. -/
def ac38 : AC :=
 .seq (.reg []
 [⟨some 2, none, .box, [.t 0]⟩,
 ⟨some 3, none, .box, [.t 1]⟩,
 ⟨some 4, none, .alloc [.int .i64 0, .int .u32 0], []⟩,
 ⟨some 5, none, .mov, [.c (.bool false)]⟩])
 (.seq (.seq (.reg []
 [⟨some 9, none, .fldA 1, [.t 3]⟩,
 ⟨some 10, none, .load none, [.t 9]⟩,
 ⟨some 11, none, .bin .eql .scal, [.t 10, .c (.int .u32 0)]⟩])
 (.cond (.t 11)
 (.seq (.reg []
 [⟨some 12, none, .load (some 2), [.t 3]⟩,
 ⟨none, none, .store 2, [.t 4, .t 12]⟩,
 ⟨some 5, none, .mov, [.c (.bool true)]⟩])
 .ret)
 .skip))
 (.seq (.reg []
 [⟨some 6, none, .mov, [.c (.int .i64 (-1))]⟩])
 (.seq (.seq (.reg []
 [⟨some 13, none, .fldA 0, [.t 2]⟩,
 ⟨some 14, none, .load none, [.t 13]⟩,
 ⟨some 15, none, .lenL, [.t 14]⟩,
 ⟨some 16, none, .mov, [.c (.int .i64 0)]⟩])
 (.block 0 (.loop ac38_1)))
 (.seq (.seq (.reg []
 [⟨some 55, none, .mov, [.t 6]⟩,
 ⟨some 56, none, .bin .lss .scal, [.t 55, .c (.int .i64 0)]⟩])
 (.cond (.t 56)
 (.seq (.reg []
 [⟨some 57, none, .build [.int .i64 0, .int .u32 0] [], []⟩,
 ⟨none, none, .store 2, [.t 4, .t 57]⟩,
 ⟨some 5, none, .mov, [.c (.bool false)]⟩])
 .ret)
 .skip))
 (.seq (.reg [[], [0], [], [1, 2], [3], [4], [5], [6], [7], [], [9], [8, 10], [11, 0, 1, 2, 3, 4, 5, 6, 7, 8, 9, 10, 11], [12, 0, 1, 2, 3, 4, 5, 6, 7, 8, 9, 10, 11, 12]]
 [⟨some 58, none, .fldA 0, [.t 2]⟩,
 ⟨some 59, none, .load none, [.t 58]⟩,
 ⟨some 60, none, .mov, [.t 6]⟩,
 ⟨some 61, none, .idxA 10, [.t 59, .t 60]⟩,
 ⟨some 62, none, .fldA 9, [.t 61]⟩,
 ⟨some 63, none, .load none, [.t 62]⟩,
 ⟨some 64, none, .idxA 2, [.t 63, .c (.int .i64 0)]⟩,
 ⟨some 65, none, .fldA 0, [.t 64]⟩,
 ⟨some 66, none, .load none, [.t 65]⟩,
 ⟨some 67, none, .fldA 1, [.t 3]⟩,
 ⟨some 68, none, .load none, [.t 67]⟩,
 ⟨some 69, none, .build [.int .i64 0, .int .u32 0] [(0, 1), (1, 1)], [.t 66, .t 68]⟩,
 ⟨none, none, .store 2, [.t 4, .t 69]⟩,
 ⟨some 5, none, .mov, [.c (.bool true)]⟩])
 .ret)))))
theorem i38 : fnInfo Try.prog 38 = some (70, [.c 4 (some 2), .t 5], ac38) := by kernel_rfl
/-- "crossroads/crossroadsref03.Bit": 18 temporaries, 2 parameters, results some [.t 4]. -/
def ac39 : AC :=
 .seq (.reg []
 [⟨some 4, none, .mov, [.c (.int .i64 0)]⟩])
 (.seq (.seq (.reg []
 [⟨some 5, none, .mov, [.t 1]⟩,
 ⟨some 6, none, .bin .lss .scal, [.t 5, .c (.int .i64 0)]⟩,
 ⟨some 7, none, .mov, [.t 6]⟩,
 ⟨some 8, some (7, false), .mov, [.t 1]⟩,
 ⟨some 9, some (7, false), .bin .gtr .scal, [.t 8, .c (.int .i64 31)]⟩,
 ⟨some 10, none, .pick, [.t 7, .c (.bool true), .t 9]⟩])
 (.cond (.t 10)
 (.seq (.reg []
 [⟨some 4, none, .mov, [.c (.int .i64 0)]⟩])
 .ret)
 .skip))
 (.seq (.reg []
 [⟨some 11, none, .mov, [.t 0]⟩,
 ⟨some 12, none, .mov, [.t 1]⟩,
 ⟨some 13, none, .bin .sub .scal, [.c (.int .i64 31), .t 12]⟩,
 ⟨some 14, none, .conv .u64, [.t 13]⟩,
 ⟨some 15, none, .bin .shr .scal, [.t 11, .t 14]⟩,
 ⟨some 16, none, .bin .and .scal, [.t 15, .c (.int .u32 1)]⟩,
 ⟨some 17, none, .conv .i64, [.t 16]⟩,
 ⟨some 4, none, .mov, [.t 17]⟩])
 .ret))
theorem i39 : fnInfo Try.prog 39 = some (18, [.t 4], ac39) := by kernel_rfl
def ac43_1 : AC :=
 .seq (.seq (.reg []
 [⟨some 15, none, .mov, [.t 9]⟩,
 ⟨some 16, none, .mov, [.t 10]⟩,
 ⟨some 17, none, .bin .lss .scal, [.t 15, .t 16]⟩])
 (.cond (.t 17)
 .skip
 (.exit 0)))
 (.block 1 (.seq (.reg []
 [⟨some 18, none, .mov, [.t 9]⟩,
 ⟨some 19, none, .mov, [.t 10]⟩,
 ⟨some 20, none, .bin .add .scal, [.t 18, .t 19]⟩,
 ⟨some 21, none, .conv .u64, [.t 20]⟩,
 ⟨some 22, none, .bin .shr .scal, [.t 21, .c (.int .u64 1)]⟩,
 ⟨some 23, none, .conv .i64, [.t 22]⟩,
 ⟨some 11, none, .mov, [.t 23]⟩])
 (.seq (.reg [[], [], [], [1, 2], [3], [], [0, 4, 5], [6]]
 [⟨some 24, none, .mov, [.t 2]⟩,
 ⟨some 25, none, .mov, [.t 0]⟩,
 ⟨some 26, none, .mov, [.t 11]⟩,
 ⟨some 27, none, .idxA 10, [.t 25, .t 26]⟩,
 ⟨some 28, none, .load (some 10), [.t 27]⟩,
 ⟨some 29, none, .load (some 10), [.t 4]⟩,
 ⟨some 30, none, .callv, [.t 24, .t 28, .t 29]⟩,
 ⟨some 31, none, .bin .lss .scal, [.t 30, .c (.int .i64 0)]⟩])
 (.cond (.t 31)
 (.reg []
 [⟨some 32, none, .mov, [.t 11]⟩,
 ⟨some 33, none, .bin .add .scal, [.t 32, .c (.int .i64 1)]⟩,
 ⟨some 9, none, .mov, [.t 33]⟩])
 (.reg []
 [⟨some 34, none, .mov, [.t 11]⟩,
 ⟨some 10, none, .mov, [.t 34]⟩])))))
/-- "slices.BinarySearchFunc[[]crossroads/rib.Cand,crossroads/rib.Cand,crossroads/rib.Cand]": 49 temporaries, 3 parameters, results some [.t 6, .t 7]. -/
def ac43 : AC :=
 .seq (.reg []
 [⟨some 4, none, .box, [.t 1]⟩,
 ⟨some 6, none, .mov, [.c (.int .i64 0)]⟩,
 ⟨some 7, none, .mov, [.c (.bool false)]⟩])
 (.seq (.reg []
 [⟨some 12, none, .mov, [.t 0]⟩,
 ⟨some 13, none, .lenL, [.t 12]⟩,
 ⟨some 8, none, .mov, [.t 13]⟩])
 (.seq (.reg []
 [⟨some 14, none, .mov, [.t 8]⟩,
 ⟨some 9, none, .mov, [.c (.int .i64 0)]⟩,
 ⟨some 10, none, .mov, [.t 14]⟩])
 (.seq (.block 0 (.loop ac43_1))
 (.seq (.reg [[], [], [], [1, 2], [3], [4], [4], [4], [6, 7, 4], [8, 4], [4], [5, 9, 10, 4, 4], [11, 4], [4, 12], [0, 11, 0], [13, 14, 0, 1, 2, 3, 4, 5, 6, 7, 8, 9, 10, 11, 12, 13, 14]]
 [⟨some 35, none, .mov, [.t 9]⟩,
 ⟨some 36, none, .mov, [.t 9]⟩,
 ⟨some 37, none, .mov, [.t 8]⟩,
 ⟨some 38, none, .bin .lss .scal, [.t 36, .t 37]⟩,
 ⟨some 39, none, .mov, [.t 38]⟩,
 ⟨some 40, some (39, true), .mov, [.t 2]⟩,
 ⟨some 41, some (39, true), .mov, [.t 0]⟩,
 ⟨some 42, some (39, true), .mov, [.t 9]⟩,
 ⟨some 43, some (39, true), .idxA 10, [.t 41, .t 42]⟩,
 ⟨some 44, some (39, true), .load (some 10), [.t 43]⟩,
 ⟨some 45, some (39, true), .load (some 10), [.t 4]⟩,
 ⟨some 46, some (39, true), .callv, [.t 40, .t 44, .t 45]⟩,
 ⟨some 47, some (39, true), .bin .eql .scal, [.t 46, .c (.int .i64 0)]⟩,
 ⟨some 48, none, .pick, [.t 39, .t 47, .c (.bool false)]⟩,
 ⟨some 6, none, .mov, [.t 35]⟩,
 ⟨some 7, none, .mov, [.t 48]⟩])
 .ret))))
theorem i43 : fnInfo Try.prog 43 = some (49, [.t 6, .t 7], ac43) := by kernel_rfl
/-- "slices.Clone[[]crossroads/rib.Cand,crossroads/rib.Cand]": 8 temporaries, 1 parameters, results some [.t 2]. -/
def ac44 : AC :=
 .seq (.reg []
 [⟨some 2, none, .mov, [.c .nils]⟩])
 (.seq (.seq (.reg []
 [⟨some 3, none, .mov, [.t 0]⟩,
 ⟨some 4, none, .bin .eql .sl, [.t 3, .c .nils]⟩])
 (.cond (.t 4)
 (.seq (.reg []
 [⟨some 2, none, .mov, [.c .nils]⟩])
 .ret)
 .skip))
 (.seq (.reg []
 [⟨some 5, none, .bslice 10 28, []⟩,
 ⟨some 6, none, .mov, [.t 0]⟩,
 ⟨some 7, none, .append 10 28 88, [.t 5, .t 6]⟩,
 ⟨some 2, none, .mov, [.t 7]⟩])
 .ret))
theorem i44 : fnInfo Try.prog 44 = some (8, [.t 2], ac44) := by kernel_rfl
/-- "slices.Insert[[]crossroads/rib.Cand,crossroads/rib.Cand]": 95 temporaries, 3 parameters, results some [.t 6]. -/
def ac45 : AC :=
 .seq (.reg []
 [⟨some 6, none, .mov, [.c .nils]⟩])
 (.seq (.reg []
 [⟨some 10, none, .mov, [.t 0]⟩,
 ⟨some 11, none, .mov, [.t 1]⟩,
 ⟨some 12, none, .slice 10 true false, [.t 10, .t 11]⟩])
 (.seq (.reg []
 [⟨some 13, none, .mov, [.t 2]⟩,
 ⟨some 14, none, .lenL, [.t 13]⟩,
 ⟨some 7, none, .mov, [.t 14]⟩])
 (.seq (.seq (.reg []
 [⟨some 15, none, .mov, [.t 7]⟩,
 ⟨some 16, none, .bin .eql .scal, [.t 15, .c (.int .i64 0)]⟩])
 (.cond (.t 16)
 (.seq (.reg []
 [⟨some 17, none, .mov, [.t 0]⟩,
 ⟨some 6, none, .mov, [.t 17]⟩])
 .ret)
 .skip))
 (.seq (.reg []
 [⟨some 18, none, .mov, [.t 0]⟩,
 ⟨some 19, none, .lenL, [.t 18]⟩,
 ⟨some 8, none, .mov, [.t 19]⟩])
 (.seq (.seq (.reg []
 [⟨some 20, none, .mov, [.t 1]⟩,
 ⟨some 21, none, .mov, [.t 8]⟩,
 ⟨some 22, none, .bin .eql .scal, [.t 20, .t 21]⟩])
 (.cond (.t 22)
 (.seq (.reg []
 [⟨some 23, none, .mov, [.t 0]⟩,
 ⟨some 24, none, .mov, [.t 2]⟩,
 ⟨some 25, none, .append 10 28 88, [.t 23, .t 24]⟩,
 ⟨some 6, none, .mov, [.t 25]⟩])
 .ret)
 .skip))
 (.seq (.seq (.reg []
 [⟨some 26, none, .mov, [.t 8]⟩,
 ⟨some 27, none, .mov, [.t 7]⟩,
 ⟨some 28, none, .bin .add .scal, [.t 26, .t 27]⟩,
 ⟨some 29, none, .mov, [.t 0]⟩,
 ⟨some 30, none, .capL, [.t 29]⟩,
 ⟨some 31, none, .bin .gtr .scal, [.t 28, .t 30]⟩])
 (.cond (.t 31)
 (.seq (.reg []
 [⟨some 32, none, .mov, [.t 0]⟩,
 ⟨some 33, none, .mov, [.t 1]⟩,
 ⟨some 34, none, .slice 10 false true, [.t 32, .t 33]⟩,
 ⟨some 35, none, .mov, [.t 8]⟩,
 ⟨some 36, none, .mov, [.t 7]⟩,
 ⟨some 37, none, .bin .add .scal, [.t 35, .t 36]⟩,
 ⟨some 38, none, .mov, [.t 1]⟩,
 ⟨some 39, none, .bin .sub .scal, [.t 37, .t 38]⟩,
 ⟨some 40, none, .appendZ 10 28 88 [.int .u32 0, .int .i64 0, .int .i64 0, .int .i64 0, .int .i64 0, .int .i64 0, .int .u32 0, .bool false, .int .i64 0, .nils], [.t 34, .t 39]⟩,
 ⟨some 9, none, .mov, [.t 40]⟩])
 (.seq (.reg []
 [⟨some 41, none, .mov, [.t 9]⟩,
 ⟨some 42, none, .mov, [.t 1]⟩,
 ⟨some 43, none, .slice 10 true false, [.t 41, .t 42]⟩,
 ⟨some 44, none, .mov, [.t 2]⟩,
 ⟨some 45, none, .copy 10, [.t 43, .t 44]⟩])
 (.seq (.reg [[], [], [], [1, 2], [0, 3], [], [], [5, 6], [4, 7]]
 [⟨some 46, none, .mov, [.t 9]⟩,
 ⟨some 47, none, .mov, [.t 1]⟩,
 ⟨some 48, none, .mov, [.t 7]⟩,
 ⟨some 49, none, .bin .add .scal, [.t 47, .t 48]⟩,
 ⟨some 50, none, .slice 10 true false, [.t 46, .t 49]⟩,
 ⟨some 51, none, .mov, [.t 0]⟩,
 ⟨some 52, none, .mov, [.t 1]⟩,
 ⟨some 53, none, .slice 10 true false, [.t 51, .t 52]⟩,
 ⟨some 54, none, .copy 10, [.t 50, .t 53]⟩])
 (.seq (.reg []
 [⟨some 55, none, .mov, [.t 9]⟩,
 ⟨some 6, none, .mov, [.t 55]⟩])
 .ret))))
 .skip))
 (.seq (.reg []
 [⟨some 56, none, .mov, [.t 0]⟩,
 ⟨some 57, none, .mov, [.t 8]⟩,
 ⟨some 58, none, .mov, [.t 7]⟩,
 ⟨some 59, none, .bin .add .scal, [.t 57, .t 58]⟩,
 ⟨some 60, none, .slice 10 false true, [.t 56, .t 59]⟩,
 ⟨some 0, none, .mov, [.t 60]⟩])
 (.seq (.seq (.reg []
 [⟨some 61, none, .mov, [.t 2]⟩,
 ⟨some 62, none, .mov, [.t 0]⟩,
 ⟨some 63, none, .mov, [.t 1]⟩,
 ⟨some 64, none, .mov, [.t 7]⟩,
 ⟨some 65, none, .bin .add .scal, [.t 63, .t 64]⟩,
 ⟨some 66, none, .slice 10 true false, [.t 62, .t 65]⟩,
 ⟨some 67, none, .call 54, [.t 61, .t 66]⟩,
 ⟨some 68, none, .unNot, [.t 67]⟩])
 (.cond (.t 68)
 (.seq (.reg [[], [], [], [1, 2], [0, 3], [], [], [5, 6], [4, 7]]
 [⟨some 69, none, .mov, [.t 0]⟩,
 ⟨some 70, none, .mov, [.t 1]⟩,
 ⟨some 71, none, .mov, [.t 7]⟩,
 ⟨some 72, none, .bin .add .scal, [.t 70, .t 71]⟩,
 ⟨some 73, none, .slice 10 true false, [.t 69, .t 72]⟩,
 ⟨some 74, none, .mov, [.t 0]⟩,
 ⟨some 75, none, .mov, [.t 1]⟩,
 ⟨some 76, none, .slice 10 true false, [.t 74, .t 75]⟩,
 ⟨some 77, none, .copy 10, [.t 73, .t 76]⟩])
 (.seq (.reg []
 [⟨some 78, none, .mov, [.t 0]⟩,
 ⟨some 79, none, .mov, [.t 1]⟩,
 ⟨some 80, none, .slice 10 true false, [.t 78, .t 79]⟩,
 ⟨some 81, none, .mov, [.t 2]⟩,
 ⟨some 82, none, .copy 10, [.t 80, .t 81]⟩])
 (.seq (.reg []
 [⟨some 83, none, .mov, [.t 0]⟩,
 ⟨some 6, none, .mov, [.t 83]⟩])
 .ret)))
 .skip))
 (.seq (.reg []
 [⟨some 84, none, .mov, [.t 0]⟩,
 ⟨some 85, none, .mov, [.t 8]⟩,
 ⟨some 86, none, .slice 10 true false, [.t 84, .t 85]⟩,
 ⟨some 87, none, .mov, [.t 2]⟩,
 ⟨some 88, none, .copy 10, [.t 86, .t 87]⟩])
 (.seq (.reg []
 [⟨some 89, none, .mov, [.t 0]⟩,
 ⟨some 90, none, .mov, [.t 1]⟩,
 ⟨some 91, none, .slice 10 true false, [.t 89, .t 90]⟩,
 ⟨some 92, none, .mov, [.t 7]⟩,
 ⟨some 93, none, .call 55, [.t 91, .t 92]⟩])
 (.seq (.reg []
 [⟨some 94, none, .mov, [.t 0]⟩,
 ⟨some 6, none, .mov, [.t 94]⟩])
 .ret)))))))))))
theorem i45 : fnInfo Try.prog 45 = some (95, [.t 6], ac45) := by kernel_rfl
/-- "crossroads/addr.isLong": 9 temporaries, 1 parameters, results some [.t 2]. -/
def ac46 : AC :=
 .seq (.reg []
 [⟨some 2, none, .mov, [.c (.bool false)]⟩])
 (.seq (.reg []
 [⟨some 3, none, .mov, [.t 0]⟩,
 ⟨some 4, none, .bin .geq .scal, [.t 3, .c (.int .i64 0)]⟩,
 ⟨some 5, none, .mov, [.t 4]⟩,
 ⟨some 6, some (5, true), .mov, [.t 0]⟩,
 ⟨some 7, some (5, true), .bin .leq .scal, [.t 6, .c (.int .i64 32)]⟩,
 ⟨some 8, none, .pick, [.t 5, .t 7, .c (.bool false)]⟩,
 ⟨some 2, none, .mov, [.t 8]⟩])
 .ret)
theorem i46 : fnInfo Try.prog 46 = some (9, [.t 2], ac46) := by kernel_rfl
/-- "crossroads/addr.Mask": 10 temporaries, 1 parameters, results some [.t 2]. -/
def ac47 : AC :=
 .seq (.reg []
 [⟨some 2, none, .mov, [.c (.int .u32 0)]⟩])
 (.seq (.reg []
 [⟨some 3, none, .mov, [.t 0]⟩,
 ⟨some 4, none, .minmax true, [.t 3, .c (.int .i64 0)]⟩,
 ⟨some 5, none, .minmax false, [.t 4, .c (.int .i64 32)]⟩,
 ⟨some 0, none, .mov, [.t 5]⟩])
 (.seq (.reg []
 [⟨some 6, none, .mov, [.t 0]⟩,
 ⟨some 7, none, .bin .sub .scal, [.c (.int .i64 32), .t 6]⟩,
 ⟨some 8, none, .bin .shl .scal, [.c (.int .u64 4294967295), .t 7]⟩,
 ⟨some 9, none, .conv .u32, [.t 8]⟩,
 ⟨some 2, none, .mov, [.t 9]⟩])
 .ret))
theorem i47 : fnInfo Try.prog 47 = some (10, [.t 2], ac47) := by kernel_rfl
def ac48_1 : AC :=
 .seq (.reg []
 [⟨some 9, none, .bin .lss .scal, [.t 8, .t 7]⟩])
 (.seq (.cond (.t 9)
 .skip
 (.exit 0))
 (.seq (.block 1 (.seq (.reg []
 [⟨some 10, none, .idxA 1, [.t 6, .t 8]⟩,
 ⟨some 11, none, .load none, [.t 10]⟩,
 ⟨some 5, none, .mov, [.t 11]⟩])
 (.seq (.reg []
 [⟨some 12, none, .mov, [.t 5]⟩,
 ⟨some 13, none, .mov, [.t 3]⟩,
 ⟨some 14, none, .bin .neq .scal, [.t 12, .t 13]⟩])
 (.cond (.t 14)
 (.seq (.reg []
 [⟨some 15, none, .mov, [.t 5]⟩,
 ⟨some 2, none, .mov, [.t 15]⟩])
 .ret)
 .skip))))
 (.reg []
 [⟨some 16, none, .bin .add .scal, [.t 8, .c (.int .i64 1)]⟩,
 ⟨some 8, none, .mov, [.t 16]⟩])))
/-- "cmp.Or[int]": 18 temporaries, 1 parameters, results some [.t 2]. -/
def ac48 : AC :=
 .seq (.reg []
 [⟨some 2, none, .mov, [.c (.int .i64 0)]⟩])
 (.seq (.reg []
 [⟨some 3, none, .mov, [.c (.int .i64 0)]⟩])
 (.seq (.seq (.reg []
 [⟨some 6, none, .mov, [.t 0]⟩,
 ⟨some 7, none, .lenL, [.t 6]⟩,
 ⟨some 8, none, .mov, [.c (.int .i64 0)]⟩])
 (.block 0 (.loop ac48_1)))
 (.seq (.reg []
 [⟨some 17, none, .mov, [.t 3]⟩,
 ⟨some 2, none, .mov, [.t 17]⟩])
 .ret)))
theorem i48 : fnInfo Try.prog 48 = some (18, [.t 2], ac48) := by kernel_rfl
/-- "cmp.Compare[uint32]": 20 temporaries, 2 parameters, results some [.t 4]. -/
def ac49 : AC :=
 .seq (.reg []
 [⟨some 4, none, .mov, [.c (.int .i64 0)]⟩])
 (.seq (.reg []
 [⟨some 7, none, .mov, [.t 0]⟩,
 ⟨some 8, none, .call 56, [.t 7]⟩,
 ⟨some 5, none, .mov, [.t 8]⟩])
 (.seq (.reg []
 [⟨some 9, none, .mov, [.t 1]⟩,
 ⟨some 10, none, .call 56, [.t 9]⟩,
 ⟨some 6, none, .mov, [.t 10]⟩])
 (.seq (.seq (.reg []
 [⟨some 11, none, .mov, [.t 5]⟩])
 (.cond (.t 11)
 (.seq (.seq (.reg []
 [⟨some 12, none, .mov, [.t 6]⟩])
 (.cond (.t 12)
 (.seq (.reg []
 [⟨some 4, none, .mov, [.c (.int .i64 0)]⟩])
 .ret)
 .skip))
 (.seq (.reg []
 [⟨some 4, none, .mov, [.c (.int .i64 (-1))]⟩])
 .ret))
 .skip))
 (.seq (.seq (.reg []
 [⟨some 13, none, .mov, [.t 6]⟩])
 (.cond (.t 13)
 (.seq (.reg []
 [⟨some 4, none, .mov, [.c (.int .i64 1)]⟩])
 .ret)
 .skip))
 (.seq (.seq (.reg []
 [⟨some 14, none, .mov, [.t 0]⟩,
 ⟨some 15, none, .mov, [.t 1]⟩,
 ⟨some 16, none, .bin .lss .scal, [.t 14, .t 15]⟩])
 (.cond (.t 16)
 (.seq (.reg []
 [⟨some 4, none, .mov, [.c (.int .i64 (-1))]⟩])
 .ret)
 .skip))
 (.seq (.seq (.reg []
 [⟨some 17, none, .mov, [.t 0]⟩,
 ⟨some 18, none, .mov, [.t 1]⟩,
 ⟨some 19, none, .bin .gtr .scal, [.t 17, .t 18]⟩])
 (.cond (.t 19)
 (.seq (.reg []
 [⟨some 4, none, .mov, [.c (.int .i64 1)]⟩])
 .ret)
 .skip))
 (.seq (.reg []
 [⟨some 4, none, .mov, [.c (.int .i64 0)]⟩])
 .ret)))))))
theorem i49 : fnInfo Try.prog 49 = some (20, [.t 4], ac49) := by kernel_rfl
/-- "cmp.Compare[int]": 20 temporaries, 2 parameters, results some [.t 4]. -/
def ac50 : AC :=
 .seq (.reg []
 [⟨some 4, none, .mov, [.c (.int .i64 0)]⟩])
 (.seq (.reg []
 [⟨some 7, none, .mov, [.t 0]⟩,
 ⟨some 8, none, .call 57, [.t 7]⟩,
 ⟨some 5, none, .mov, [.t 8]⟩])
 (.seq (.reg []
 [⟨some 9, none, .mov, [.t 1]⟩,
 ⟨some 10, none, .call 57, [.t 9]⟩,
 ⟨some 6, none, .mov, [.t 10]⟩])
 (.seq (.seq (.reg []
 [⟨some 11, none, .mov, [.t 5]⟩])
 (.cond (.t 11)
 (.seq (.seq (.reg []
 [⟨some 12, none, .mov, [.t 6]⟩])
 (.cond (.t 12)
 (.seq (.reg []
 [⟨some 4, none, .mov, [.c (.int .i64 0)]⟩])
 .ret)
 .skip))
 (.seq (.reg []
 [⟨some 4, none, .mov, [.c (.int .i64 (-1))]⟩])
 .ret))
 .skip))
 (.seq (.seq (.reg []
 [⟨some 13, none, .mov, [.t 6]⟩])
 (.cond (.t 13)
 (.seq (.reg []
 [⟨some 4, none, .mov, [.c (.int .i64 1)]⟩])
 .ret)
 .skip))
 (.seq (.seq (.reg []
 [⟨some 14, none, .mov, [.t 0]⟩,
 ⟨some 15, none, .mov, [.t 1]⟩,
 ⟨some 16, none, .bin .lss .scal, [.t 14, .t 15]⟩])
 (.cond (.t 16)
 (.seq (.reg []
 [⟨some 4, none, .mov, [.c (.int .i64 (-1))]⟩])
 .ret)
 .skip))
 (.seq (.seq (.reg []
 [⟨some 17, none, .mov, [.t 0]⟩,
 ⟨some 18, none, .mov, [.t 1]⟩,
 ⟨some 19, none, .bin .gtr .scal, [.t 17, .t 18]⟩])
 (.cond (.t 19)
 (.seq (.reg []
 [⟨some 4, none, .mov, [.c (.int .i64 1)]⟩])
 .ret)
 .skip))
 (.seq (.reg []
 [⟨some 4, none, .mov, [.c (.int .i64 0)]⟩])
 .ret)))))))
theorem i50 : fnInfo Try.prog 50 = some (20, [.t 4], ac50) := by kernel_rfl
/-- "(crossroads/rib.Cand).leaked": 5 temporaries, 1 parameters, results some [.t 2]. -/
def ac51 : AC :=
 .seq (.reg []
 [⟨some 1, none, .box, [.t 0]⟩,
 ⟨some 2, none, .mov, [.c (.int .i64 0)]⟩])
 (.seq (.seq (.reg []
 [⟨some 3, none, .fldA 7, [.t 1]⟩,
 ⟨some 4, none, .load none, [.t 3]⟩])
 (.cond (.t 4)
 (.seq (.reg []
 [⟨some 2, none, .mov, [.c (.int .i64 1)]⟩])
 .ret)
 .skip))
 (.seq (.reg []
 [⟨some 2, none, .mov, [.c (.int .i64 0)]⟩])
 .ret))
theorem i51 : fnInfo Try.prog 51 = some (5, [.t 2], ac51) := by kernel_rfl
/-- "crossroads/crossroadsref25.num": 4 temporaries, 1 parameters, results some [.t 2]. -/
def ac52 : AC :=
 .seq (.reg []
 [⟨some 2, none, .mov, [.c (.int .i64 0)]⟩])
 (.seq (.seq (.reg []
 [⟨some 3, none, .mov, [.t 0]⟩])
 (.cond (.t 3)
 (.seq (.reg []
 [⟨some 2, none, .mov, [.c (.int .i64 1)]⟩])
 .ret)
 .skip))
 (.seq (.reg []
 [⟨some 2, none, .mov, [.c (.int .i64 0)]⟩])
 .ret))
theorem i52 : fnInfo Try.prog 52 = some (4, [.t 2], ac52) := by kernel_rfl
/-- "(crossroads/rib.Table).living": 4 temporaries, 1 parameters, results some [.t 2]. -/
def ac53 : AC :=
 .seq (.reg []
 [⟨some 1, none, .box, [.t 0]⟩,
 ⟨some 2, none, .mov, [.c .nilf]⟩])
 (.seq (.reg []
 [⟨some 3, none, .mkfn 58 0, [.t 1]⟩,
 ⟨some 2, none, .mov, [.t 3]⟩])
 .ret)
theorem i53 : fnInfo Try.prog 53 = some (4, [.t 2], ac53) := by kernel_rfl
/-- "cmp.isNaN[uint32]": 6 temporaries, 1 parameters, results some [.t 2]. -/
def ac56 : AC :=
 .seq (.reg []
 [⟨some 2, none, .mov, [.c (.bool false)]⟩])
 (.seq (.reg []
 [⟨some 3, none, .mov, [.t 0]⟩,
 ⟨some 4, none, .mov, [.t 0]⟩,
 ⟨some 5, none, .bin .neq .scal, [.t 3, .t 4]⟩,
 ⟨some 2, none, .mov, [.t 5]⟩])
 .ret)
theorem i56 : fnInfo Try.prog 56 = some (6, [.t 2], ac56) := by kernel_rfl
/-- "cmp.isNaN[int]": 6 temporaries, 1 parameters, results some [.t 2]. -/
def ac57 : AC :=
 .seq (.reg []
 [⟨some 2, none, .mov, [.c (.bool false)]⟩])
 (.seq (.reg []
 [⟨some 3, none, .mov, [.t 0]⟩,
 ⟨some 4, none, .mov, [.t 0]⟩,
 ⟨some 5, none, .bin .neq .scal, [.t 3, .t 4]⟩,
 ⟨some 2, none, .mov, [.t 5]⟩])
 .ret)
theorem i57 : fnInfo Try.prog 57 = some (6, [.t 2], ac57) := by kernel_rfl
def ac58_1 : AC :=
 .seq (.reg []
 [⟨some 11, none, .bin .lss .scal, [.t 10, .t 9]⟩])
 (.seq (.cond (.t 11)
 .skip
 (.exit 0))
 (.seq (.block 1 (.seq (.reg []
 [⟨some 12, none, .idxA 10, [.t 8, .t 10]⟩,
 ⟨some 13, none, .load (some 10), [.t 12]⟩,
 ⟨some 4, none, .alloc [.int .u32 0, .int .i64 0, .int .i64 0, .int .i64 0, .int .i64 0, .int .i64 0, .int .u32 0, .bool false, .int .i64 0, .nils], []⟩,
 ⟨none, none, .store 10, [.t 4, .t 13]⟩])
 (.seq (.reg []
 [⟨some 15, none, .load (some 1), [.t 1]⟩,
 ⟨some 16, none, .load (some 10), [.t 4]⟩,
 ⟨some 17, none, .call 19, [.t 15, .t 16]⟩,
 ⟨some 14, none, .mov, [.t 17]⟩,
 ⟨some 18, none, .ext 0, [.t 14]⟩,
 ⟨some 19, none, .ext 1, [.t 14]⟩,
 ⟨some 5, none, .alloc [.int .u32 0, .int .i64 0, .int .i64 0, .int .i64 0, .int .i64 0, .int .i64 0, .int .u32 0, .bool false, .int .i64 0, .nils], []⟩,
 ⟨none, none, .store 10, [.t 5, .t 18]⟩,
 ⟨some 6, none, .mov, [.t 19]⟩])
 (.seq (.reg []
 [⟨some 20, none, .mov, [.t 6]⟩,
 ⟨some 21, none, .mov, [.t 20]⟩,
 ⟨some 22, some (21, true), .mov, [.t 0]⟩,
 ⟨some 23, some (21, true), .load (some 10), [.t 5]⟩,
 ⟨some 24, some (21, true), .callv, [.t 22, .t 23]⟩,
 ⟨some 25, some (21, true), .unNot, [.t 24]⟩,
 ⟨some 26, none, .pick, [.t 21, .t 25, .c (.bool false)]⟩])
 (.cond (.t 26)
 .ret
 .skip)))))
 (.reg []
 [⟨some 27, none, .bin .add .scal, [.t 10, .c (.int .i64 1)]⟩,
 ⟨some 10, none, .mov, [.t 27]⟩])))
/-- "(crossroads/rib.Table).living$1": 28 temporaries, 1 parameters, results some []. -/
def ac58 : AC :=
 .seq (.reg []
 [⟨some 7, none, .fldA 0, [.t 1]⟩,
 ⟨some 8, none, .load none, [.t 7]⟩,
 ⟨some 9, none, .lenL, [.t 8]⟩,
 ⟨some 10, none, .mov, [.c (.int .i64 0)]⟩])
 (.block 0 (.loop ac58_1))
theorem i58 : fnInfo Try.prog 58 = some (28, [], ac58) := by kernel_rfl
end Go.Proofs.Ytmfggjebbhdejaa.Abs

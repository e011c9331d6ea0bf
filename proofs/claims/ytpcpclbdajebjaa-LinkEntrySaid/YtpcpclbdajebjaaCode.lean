/- The functions of the program as the abstract machine's code: each is what the model's code is turned into. -/
import Derived.Test.YtpcpclbdajebjaaA20
import Derived.Test.YtpcpclbdajebjaaProg
import Derived.KernelRfl
namespace Go.Proofs.Ytpcpclbdajebjaa.Abs
open Go

theorem mixed : Try.prog.follows .mixedOrders = true := by kernel_rfl

/-- "crossroads/crossroadslaw23.LinkEntry": 46 temporaries, 1 parameters, results some [.t 2]. -/
def ac4 : AC :=
 .seq (.reg []
 [⟨some 1, none, .box, [.t 0]⟩,
 ⟨some 2, none, .mov, [.c (.bool false)]⟩])
 (.seq (.seq (.reg []
 [⟨some 5, none, .load (some 7), [.t 1]⟩,
 ⟨some 6, none, .call 12, [.t 5]⟩,
 ⟨some 7, none, .unNot, [.t 6]⟩])
 (.cond (.t 7)
 (.seq (.reg []
 [⟨some 8, none, .call 11, []⟩,
 ⟨some 2, none, .mov, [.t 8]⟩])
 .ret)
 .skip))
 (.seq (.reg []
 [⟨some 9, none, .load (some 7), [.t 1]⟩,
 ⟨some 10, none, .bslice 7 34, [.t 9]⟩,
 ⟨some 11, none, .build [.int .i64 0, .int .i64 0, .nils, .bool false] [(2, 1)], [.t 10]⟩,
 ⟨some 3, none, .alloc [.int .i64 0, .int .i64 0, .nils, .bool false], []⟩,
 ⟨none, none, .store 4, [.t 3, .t 11]⟩])
 (.seq (.reg []
 [⟨some 12, none, .load (some 7), [.t 1]⟩,
 ⟨some 4, none, .alloc [.int .i64 0, .int .i64 0, .int .u64 0, .int .u32 0, .int .i64 0, .int .i64 0, .nils], []⟩,
 ⟨none, none, .store 7, [.t 4, .t 12]⟩])
 (.seq (.reg [[], [], [1], [0, 2, 0], [0, 1, 2, 3], [4, 3, 3, 0, 1, 2, 3]]
 [⟨some 13, none, .call 13, [.c (.int .i64 1)]⟩,
 ⟨some 14, none, .fldA 6, [.t 1]⟩,
 ⟨some 15, none, .load none, [.t 14]⟩,
 ⟨some 16, none, .append 2 97 32, [.t 13, .t 15]⟩,
 ⟨some 17, none, .fldA 6, [.t 4]⟩,
 ⟨none, none, .store 1, [.t 17, .t 16]⟩])
 (.seq (.reg [[], [0, 0], [1], [2, 1, 1], [1], [4, 1], [1], [6, 1], [1], [8, 1], [1], [10, 1], [5, 7, 9, 11, 1], [3, 12, 1], [1, 13], [14, 3], [15], [15], [16, 17, 15, 15], [15, 18], [19, 18], [20], [20], [22, 20], [23, 20], [21, 24, 20, 20], [25, 20], [20, 26], [27, 25, 0, 1, 2, 3, 4, 5, 6, 7, 8, 9, 10, 11, 12, 13, 14, 15, 16, 17, 18, 19, 20, 21, 22, 23, 24, 25, 26, 27]]
 [⟨some 18, none, .call 11, []⟩,
 ⟨some 19, none, .mov, [.t 18]⟩,
 ⟨some 20, some (19, true), .load (some 7), [.t 1]⟩,
 ⟨some 21, some (19, true), .call 14, [.t 20]⟩,
 ⟨some 22, some (19, true), .fldA 1, [.t 1]⟩,
 ⟨some 23, some (19, true), .load none, [.t 22]⟩,
 ⟨some 24, some (19, true), .fldA 2, [.t 1]⟩,
 ⟨some 25, some (19, true), .load none, [.t 24]⟩,
 ⟨some 26, some (19, true), .fldA 3, [.t 1]⟩,
 ⟨some 27, some (19, true), .load none, [.t 26]⟩,
 ⟨some 28, some (19, true), .fldA 4, [.t 1]⟩,
 ⟨some 29, some (19, true), .load none, [.t 28]⟩,
 ⟨some 30, some (19, true), .build [.int .i64 0, .int .u64 0, .int .u32 0, .int .i64 0] [(0, 1), (1, 1), (2, 1), (3, 1)], [.t 23, .t 25, .t 27, .t 29]⟩,
 ⟨some 31, some (19, true), .bin .eql (.flat [.int .i64, .int .u64, .int .u32, .int .i64]), [.t 21, .t 30]⟩,
 ⟨some 32, none, .pick, [.t 19, .t 31, .c (.bool false)]⟩,
 ⟨some 33, none, .mov, [.t 32]⟩,
 ⟨some 34, some (33, true), .load (some 4), [.t 3]⟩,
 ⟨some 35, some (33, true), .load (some 4), [.t 3]⟩,
 ⟨some 36, some (33, true), .call 15, [.t 34, .t 35]⟩,
 ⟨some 37, none, .pick, [.t 33, .t 36, .c (.bool false)]⟩,
 ⟨some 38, none, .mov, [.t 37]⟩,
 ⟨some 39, some (38, true), .load (some 4), [.t 3]⟩,
 ⟨some 40, some (38, true), .load (some 7), [.t 4]⟩,
 ⟨some 41, some (38, true), .bslice 7 34, [.t 40]⟩,
 ⟨some 42, some (38, true), .build [.int .i64 0, .int .i64 0, .nils, .bool false] [(2, 1)], [.t 41]⟩,
 ⟨some 43, some (38, true), .call 15, [.t 39, .t 42]⟩,
 ⟨some 44, some (38, true), .unNot, [.t 43]⟩,
 ⟨some 45, none, .pick, [.t 38, .t 44, .c (.bool false)]⟩,
 ⟨some 2, none, .mov, [.t 45]⟩])
 .ret)))))
theorem i4 : fnInfo Try.prog 4 = some (46, [.t 2], ac4) := by kernel_rfl
/-- "crossroads/link.Compare": 22 temporaries, 2 parameters, results some [.t 4]. -/
def ac8 : AC :=
 .seq (.reg []
 [⟨some 2, none, .box, [.t 0]⟩,
 ⟨some 3, none, .box, [.t 1]⟩,
 ⟨some 4, none, .mov, [.c (.int .i64 0)]⟩])
 (.seq (.reg [[], [0], [], [2], [1, 3], [], [5, 4], [], [7, 6], [6, 8], [], [10], [], [12], [11, 13, 8], [4, 9, 14], [15, 14], [16, 16, 0, 1, 2, 3, 4, 5, 6, 7, 8, 9, 10, 11, 12, 13, 14, 15, 16]]
 [⟨some 5, none, .fldA 2, [.t 2]⟩,
 ⟨some 6, none, .load none, [.t 5]⟩,
 ⟨some 7, none, .fldA 2, [.t 3]⟩,
 ⟨some 8, none, .load none, [.t 7]⟩,
 ⟨some 9, none, .call 38, [.t 6, .t 8]⟩,
 ⟨some 10, none, .load (some 4), [.t 2]⟩,
 ⟨some 11, none, .call 39, [.t 10]⟩,
 ⟨some 12, none, .load (some 4), [.t 3]⟩,
 ⟨some 13, none, .call 39, [.t 12]⟩,
 ⟨some 14, none, .bin .sub .scal, [.t 11, .t 13]⟩,
 ⟨some 15, none, .fldA 3, [.t 2]⟩,
 ⟨some 16, none, .load none, [.t 15]⟩,
 ⟨some 17, none, .fldA 3, [.t 3]⟩,
 ⟨some 18, none, .load none, [.t 17]⟩,
 ⟨some 19, none, .call 40, [.t 16, .t 18]⟩,
 ⟨some 20, none, .bslice 1 3, [.t 9, .t 14, .t 19]⟩,
 ⟨some 21, none, .call 37, [.t 20]⟩,
 ⟨some 4, none, .mov, [.t 21]⟩])
 .ret)
theorem i8 : fnInfo Try.prog 8 = some (22, [.t 4], ac8) := by kernel_rfl
/-- "crossroads/crossroadslaw23.alive": 46 temporaries, 0 parameters, results some [.t 0]. -/
def ac11 : AC :=
 .seq (.reg []
 [⟨some 0, none, .mov, [.c (.bool false)]⟩])
 (.seq (.reg []
 [⟨some 9, none, .call 24, [.c (.int .i64 1), .c (.int .i64 1)]⟩,
 ⟨some 8, none, .mov, [.t 9]⟩,
 ⟨some 10, none, .ext 0, [.t 8]⟩,
 ⟨some 11, none, .ext 1, [.t 8]⟩,
 ⟨some 1, none, .alloc [.int .i64 0, .int .i64 0, .nils, .bool false], []⟩,
 ⟨none, none, .store 4, [.t 1, .t 10]⟩,
 ⟨some 2, none, .mov, [.t 11]⟩])
 (.seq (.reg []
 [⟨some 13, none, .load (some 4), [.t 1]⟩,
 ⟨some 14, none, .build [.int .i64 0, .int .i64 0, .int .u64 0, .int .u32 0, .int .i64 0, .int .i64 0, .nils] [(0, 1), (2, 1), (3, 1)], [.c (.int .i64 1), .c (.int .u64 5), .c (.int .u32 1)]⟩,
 ⟨some 15, none, .call 21, [.t 13, .t 14]⟩,
 ⟨some 12, none, .mov, [.t 15]⟩,
 ⟨some 16, none, .ext 0, [.t 12]⟩,
 ⟨some 17, none, .ext 1, [.t 12]⟩,
 ⟨some 18, none, .ext 2, [.t 12]⟩,
 ⟨none, none, .store 4, [.t 1, .t 16]⟩,
 ⟨some 3, none, .mov, [.t 17]⟩,
 ⟨some 4, none, .mov, [.t 18]⟩])
 (.seq (.reg []
 [⟨some 20, none, .load (some 4), [.t 1]⟩,
 ⟨some 21, none, .build [.int .i64 0, .int .i64 0, .int .u64 0, .int .u32 0, .int .i64 0, .int .i64 0, .nils] [(0, 1), (2, 1), (3, 1)], [.c (.int .i64 1), .c (.int .u64 6), .c (.int .u32 1)]⟩,
 ⟨some 22, none, .call 21, [.t 20, .t 21]⟩,
 ⟨some 19, none, .mov, [.t 22]⟩,
 ⟨some 23, none, .ext 0, [.t 19]⟩,
 ⟨some 24, none, .ext 1, [.t 19]⟩,
 ⟨some 25, none, .ext 2, [.t 19]⟩,
 ⟨some 5, none, .alloc [.int .i64 0, .int .i64 0, .nils, .bool false], []⟩,
 ⟨none, none, .store 4, [.t 5, .t 23]⟩,
 ⟨some 6, none, .mov, [.t 24]⟩,
 ⟨some 7, none, .mov, [.t 25]⟩])
 (.seq (.reg []
 [⟨some 26, none, .mov, [.t 2]⟩,
 ⟨some 27, none, .bin .eql .scal, [.t 26, .c (.int .i64 0)]⟩,
 ⟨some 28, none, .mov, [.t 27]⟩,
 ⟨some 29, some (28, true), .mov, [.t 3]⟩,
 ⟨some 30, some (28, true), .bin .eql .scal, [.t 29, .c (.int .i64 3)]⟩,
 ⟨some 31, none, .pick, [.t 28, .t 30, .c (.bool false)]⟩,
 ⟨some 32, none, .mov, [.t 31]⟩,
 ⟨some 33, some (32, true), .mov, [.t 4]⟩,
 ⟨some 34, some (32, true), .bin .eql .scal, [.t 33, .c (.int .i64 0)]⟩,
 ⟨some 35, none, .pick, [.t 32, .t 34, .c (.bool false)]⟩,
 ⟨some 36, none, .mov, [.t 35]⟩,
 ⟨some 37, some (36, true), .mov, [.t 7]⟩,
 ⟨some 38, some (36, true), .bin .eql .scal, [.t 37, .c (.int .i64 8)]⟩,
 ⟨some 39, none, .pick, [.t 36, .t 38, .c (.bool false)]⟩,
 ⟨some 40, none, .mov, [.t 39]⟩,
 ⟨some 41, some (40, true), .build [.int .i64 0, .int .u64 0, .int .u32 0, .int .i64 0] [(2, 1)], [.c (.int .u32 2)]⟩,
 ⟨some 42, some (40, true), .build [.int .i64 0, .int .u64 0, .int .u32 0, .int .i64 0] [(2, 1), (3, 1)], [.c (.int .u32 1), .c (.int .i64 9)]⟩,
 ⟨some 43, some (40, true), .call 8, [.t 41, .t 42]⟩,
 ⟨some 44, some (40, true), .bin .eql .scal, [.t 43, .c (.int .i64 1)]⟩,
 ⟨some 45, none, .pick, [.t 40, .t 44, .c (.bool false)]⟩,
 ⟨some 0, none, .mov, [.t 45]⟩])
 .ret))))
theorem i11 : fnInfo Try.prog 11 = some (46, [.t 0], ac11) := by kernel_rfl
def ac12_1 : AC :=
 .seq (.seq (.reg []
 [⟨some 4, none, .mov, [.t 3]⟩,
 ⟨some 5, none, .fldA 6, [.t 1]⟩,
 ⟨some 6, none, .load none, [.t 5]⟩,
 ⟨some 7, none, .lenL, [.t 6]⟩,
 ⟨some 8, none, .bin .lss .scal, [.t 4, .t 7]⟩])
 (.cond (.t 8)
 .skip
 (.exit 0)))
 (.seq (.block 1 (.seq (.reg []
 [⟨some 11, none, .mov, [.t 3]⟩,
 ⟨some 12, none, .bin .eql .scal, [.t 11, .c (.int .i64 8)]⟩,
 ⟨some 13, none, .mov, [.t 12]⟩,
 ⟨some 14, some (13, false), .fldA 6, [.t 1]⟩,
 ⟨some 15, some (13, false), .load none, [.t 14]⟩,
 ⟨some 16, some (13, false), .mov, [.t 3]⟩,
 ⟨some 17, some (13, false), .idxA 2, [.t 15, .t 16]⟩,
 ⟨some 18, some (13, false), .fldA 1, [.t 17]⟩,
 ⟨some 19, some (13, false), .load none, [.t 18]⟩,
 ⟨some 20, some (13, false), .lenL, [.t 19]⟩,
 ⟨some 21, some (13, false), .bin .gtr .scal, [.t 20, .c (.int .i64 300)]⟩,
 ⟨some 22, none, .pick, [.t 13, .c (.bool true), .t 21]⟩])
 (.cond (.t 22)
 (.seq (.reg []
 [⟨some 2, none, .mov, [.c (.bool false)]⟩])
 .ret)
 .skip)))
 (.reg []
 [⟨some 9, none, .mov, [.t 3]⟩,
 ⟨some 10, none, .bin .add .scal, [.t 9, .c (.int .i64 1)]⟩,
 ⟨some 3, none, .mov, [.t 10]⟩]))
/-- "crossroads/crossroadslaw23.little": 23 temporaries, 1 parameters, results some [.t 2]. -/
def ac12 : AC :=
 .seq (.reg []
 [⟨some 1, none, .box, [.t 0]⟩,
 ⟨some 2, none, .mov, [.c (.bool false)]⟩])
 (.seq (.seq (.reg []
 [⟨some 3, none, .mov, [.c (.int .i64 0)]⟩])
 (.block 0 (.loop ac12_1)))
 (.seq (.reg []
 [⟨some 2, none, .mov, [.c (.bool true)]⟩])
 .ret))
theorem i12 : fnInfo Try.prog 12 = some (23, [.t 2], ac12) := by kernel_rfl
/-- "crossroads/crossroadslaw23.thing": 6 temporaries, 1 parameters, results some [.t 2]. -/
def ac13 : AC :=
 .seq (.reg []
 [⟨some 2, none, .mov, [.c .nils]⟩])
 (.seq (.reg []
 [⟨some 3, none, .mov, [.t 0]⟩,
 ⟨some 4, none, .build [.int .i64 0, .nils] [(0, 1)], [.t 3]⟩,
 ⟨some 5, none, .bslice 2 97, [.t 4]⟩,
 ⟨some 2, none, .mov, [.t 5]⟩])
 .ret)
theorem i13 : fnInfo Try.prog 13 = some (6, [.t 2], ac13) := by kernel_rfl
/-- "crossroads/link.Entry": 12 temporaries, 1 parameters, results some [.c 2 (some 4)]. -/
def ac14 : AC :=
 .seq (.reg []
 [⟨some 1, none, .box, [.t 0]⟩,
 ⟨some 2, none, .alloc [.int .i64 0, .int .u64 0, .int .u32 0, .int .i64 0], []⟩])
 (.seq (.reg []
 [⟨some 3, none, .fldA 1, [.t 1]⟩,
 ⟨some 4, none, .load none, [.t 3]⟩,
 ⟨some 5, none, .fldA 2, [.t 1]⟩,
 ⟨some 6, none, .load none, [.t 5]⟩,
 ⟨some 7, none, .fldA 3, [.t 1]⟩,
 ⟨some 8, none, .load none, [.t 7]⟩,
 ⟨some 9, none, .fldA 4, [.t 1]⟩,
 ⟨some 10, none, .load none, [.t 9]⟩,
 ⟨some 11, none, .build [.int .i64 0, .int .u64 0, .int .u32 0, .int .i64 0] [(0, 1), (1, 1), (2, 1), (3, 1)], [.t 4, .t 6, .t 8, .t 10]⟩,
 ⟨none, none, .store 4, [.t 2, .t 11]⟩])
 .ret)
theorem i14 : fnInfo Try.prog 14 = some (12, [.c 2 (some 4)], ac14) := by kernel_rfl
/-- "crossroads/link.Alike": 10 temporaries, 2 parameters, results some [.t 4]. -/
def ac15 : AC :=
 .seq (.reg []
 [⟨some 2, none, .box, [.t 0]⟩,
 ⟨some 3, none, .box, [.t 1]⟩,
 ⟨some 4, none, .mov, [.c (.bool false)]⟩])
 (.seq (.reg []
 [⟨some 5, none, .fldA 2, [.t 2]⟩,
 ⟨some 6, none, .load none, [.t 5]⟩,
 ⟨some 7, none, .fldA 2, [.t 3]⟩,
 ⟨some 8, none, .load none, [.t 7]⟩,
 ⟨some 9, none, .call 42, [.t 6, .t 8, .f 43]⟩,
 ⟨some 4, none, .mov, [.t 9]⟩])
 .ret)
theorem i15 : fnInfo Try.prog 15 = some (10, [.t 4], ac15) := by kernel_rfl
/-- "crossroads/link.Put": 64 temporaries, 2 parameters, results some [.c 4 (some 4), .t 5, .t 6]. -/
def ac21 : AC :=
 .seq (.reg []
 [⟨some 2, none, .box, [.t 0]⟩,
 ⟨some 3, none, .box, [.t 1]⟩,
 ⟨some 4, none, .alloc [.int .i64 0, .int .i64 0, .nils, .bool false], []⟩,
 ⟨some 5, none, .mov, [.c (.int .i64 0)]⟩,
 ⟨some 6, none, .mov, [.c (.int .i64 0)]⟩])
 (.seq (.seq (.reg []
 [⟨some 10, none, .load (some 4), [.t 2]⟩,
 ⟨some 11, none, .load (some 7), [.t 3]⟩,
 ⟨some 12, none, .call 48, [.t 10, .t 11]⟩,
 ⟨some 13, none, .unNot, [.t 12]⟩])
 (.cond (.t 13)
 (.seq (.reg []
 [⟨some 14, none, .load (some 4), [.t 2]⟩,
 ⟨none, none, .store 4, [.t 4, .t 14]⟩,
 ⟨some 5, none, .mov, [.c (.int .i64 0)]⟩,
 ⟨some 6, none, .mov, [.c (.int .i64 1)]⟩])
 .ret)
 .skip))
 (.seq (.reg []
 [⟨some 16, none, .load (some 4), [.t 2]⟩,
 ⟨some 17, none, .fldA 2, [.t 3]⟩,
 ⟨some 18, none, .load none, [.t 17]⟩,
 ⟨some 19, none, .call 49, [.t 16, .t 18]⟩,
 ⟨some 15, none, .mov, [.t 19]⟩,
 ⟨some 20, none, .ext 0, [.t 15]⟩,
 ⟨some 21, none, .ext 1, [.t 15]⟩,
 ⟨some 7, none, .mov, [.t 20]⟩,
 ⟨some 8, none, .mov, [.t 21]⟩])
 (.seq (.seq (.reg []
 [⟨some 22, none, .mov, [.t 8]⟩,
 ⟨some 23, none, .unNot, [.t 22]⟩])
 (.cond (.t 23)
 (.seq (.seq (.reg []
 [⟨some 24, none, .fldA 2, [.t 2]⟩,
 ⟨some 25, none, .load none, [.t 24]⟩,
 ⟨some 26, none, .lenL, [.t 25]⟩,
 ⟨some 27, none, .fldA 1, [.t 2]⟩,
 ⟨some 28, none, .load none, [.t 27]⟩,
 ⟨some 29, none, .bin .geq .scal, [.t 26, .t 28]⟩])
 (.cond (.t 29)
 (.seq (.reg []
 [⟨some 30, none, .fldA 3, [.t 2]⟩,
 ⟨none, none, .store 1, [.t 30, .c (.bool true)]⟩])
 (.seq (.reg []
 [⟨some 31, none, .load (some 4), [.t 2]⟩,
 ⟨none, none, .store 4, [.t 4, .t 31]⟩,
 ⟨some 5, none, .mov, [.c (.int .i64 0)]⟩,
 ⟨some 6, none, .mov, [.c (.int .i64 8)]⟩])
 .ret))
 .skip))
 (.seq (.reg [[], [0], [1], [], [], [4], [2, 3, 5, 2], [0, 1, 2, 3, 4, 5, 6], [7, 6, 6, 0, 1, 2, 3, 4, 5, 6]]
 [⟨some 32, none, .fldA 2, [.t 2]⟩,
 ⟨some 33, none, .load none, [.t 32]⟩,
 ⟨some 34, none, .call 51, [.t 33]⟩,
 ⟨some 35, none, .mov, [.t 7]⟩,
 ⟨some 36, none, .load (some 7), [.t 3]⟩,
 ⟨some 37, none, .bslice 7 34, [.t 36]⟩,
 ⟨some 38, none, .call 50, [.t 34, .t 35, .t 37]⟩,
 ⟨some 39, none, .fldA 2, [.t 2]⟩,
 ⟨none, none, .store 1, [.t 39, .t 38]⟩])
 (.seq (.reg []
 [⟨some 40, none, .load (some 4), [.t 2]⟩,
 ⟨none, none, .store 4, [.t 4, .t 40]⟩,
 ⟨some 5, none, .mov, [.c (.int .i64 3)]⟩,
 ⟨some 6, none, .mov, [.c (.int .i64 0)]⟩])
 .ret)))
 .skip))
 (.seq (.reg [[], [0], [], [2], [], [3, 4], [5], [6, 1], [1, 7, 7], [8], [9, 8, 0, 1, 2, 3, 4, 5, 6, 7, 8, 9]]
 [⟨some 41, none, .load (some 7), [.t 3]⟩,
 ⟨some 42, none, .call 14, [.t 41]⟩,
 ⟨some 43, none, .fldA 2, [.t 2]⟩,
 ⟨some 44, none, .load none, [.t 43]⟩,
 ⟨some 45, none, .mov, [.t 7]⟩,
 ⟨some 46, none, .idxA 7, [.t 44, .t 45]⟩,
 ⟨some 47, none, .load (some 7), [.t 46]⟩,
 ⟨some 48, none, .call 14, [.t 47]⟩,
 ⟨some 49, none, .call 8, [.t 42, .t 48]⟩,
 ⟨some 50, none, .bin .add .scal, [.c (.int .i64 1), .t 49]⟩,
 ⟨some 9, none, .mov, [.t 50]⟩])
 (.seq (.seq (.reg []
 [⟨some 51, none, .mov, [.t 9]⟩,
 ⟨some 52, none, .bin .eql .scal, [.t 51, .c (.int .i64 2)]⟩])
 (.cond (.t 52)
 (.seq (.reg []
 [⟨some 53, none, .fldA 2, [.t 2]⟩,
 ⟨some 54, none, .load none, [.t 53]⟩,
 ⟨some 55, none, .call 51, [.t 54]⟩,
 ⟨some 56, none, .fldA 2, [.t 2]⟩,
 ⟨none, none, .store 1, [.t 56, .t 55]⟩])
 (.reg []
 [⟨some 57, none, .fldA 2, [.t 2]⟩,
 ⟨some 58, none, .load none, [.t 57]⟩,
 ⟨some 59, none, .mov, [.t 7]⟩,
 ⟨some 60, none, .load (some 7), [.t 3]⟩,
 ⟨some 61, none, .idxA 7, [.t 58, .t 59]⟩,
 ⟨none, none, .store 7, [.t 61, .t 60]⟩]))
 .skip))
 (.seq (.reg []
 [⟨some 62, none, .load (some 4), [.t 2]⟩,
 ⟨some 63, none, .mov, [.t 9]⟩,
 ⟨none, none, .store 4, [.t 4, .t 62]⟩,
 ⟨some 5, none, .mov, [.t 63]⟩,
 ⟨some 6, none, .mov, [.c (.int .i64 0)]⟩])
 .ret))))))
theorem i21 : fnInfo Try.prog 21 = some (64, [.c 4 (some 4), .t 5, .t 6], ac21) := by kernel_rfl
/-- "crossroads/link.New": 24 temporaries, 2 parameters, results some [.c 4 (some 4), .t 5]. -/
def ac24 : AC :=
 .seq (.reg []
 [⟨some 4, none, .alloc [.int .i64 0, .int .i64 0, .nils, .bool false], []⟩,
 ⟨some 5, none, .mov, [.c (.int .i64 0)]⟩])
 (.seq (.seq (.reg []
 [⟨some 6, none, .mov, [.t 0]⟩,
 ⟨some 7, none, .bin .lss .scal, [.t 6, .c (.int .i64 1)]⟩,
 ⟨some 8, none, .mov, [.t 7]⟩,
 ⟨some 9, some (8, false), .mov, [.t 0]⟩,
 ⟨some 10, some (8, false), .bin .gtr .scal, [.t 9, .c (.int .i64 2)]⟩,
 ⟨some 11, none, .pick, [.t 8, .c (.bool true), .t 10]⟩,
 ⟨some 12, none, .mov, [.t 11]⟩,
 ⟨some 13, some (12, false), .mov, [.t 1]⟩,
 ⟨some 14, some (12, false), .bin .lss .scal, [.t 13, .c (.int .i64 1)]⟩,
 ⟨some 15, none, .pick, [.t 12, .c (.bool true), .t 14]⟩,
 ⟨some 16, none, .mov, [.t 15]⟩,
 ⟨some 17, some (16, false), .mov, [.t 1]⟩,
 ⟨some 18, some (16, false), .bin .gtr .scal, [.t 17, .c (.int .i64 1000)]⟩,
 ⟨some 19, none, .pick, [.t 16, .c (.bool true), .t 18]⟩])
 (.cond (.t 19)
 (.seq (.reg []
 [⟨some 20, none, .build [.int .i64 0, .int .i64 0, .nils, .bool false] [], []⟩,
 ⟨none, none, .store 4, [.t 4, .t 20]⟩,
 ⟨some 5, none, .mov, [.c (.int .i64 1)]⟩])
 .ret)
 .skip))
 (.seq (.reg []
 [⟨some 21, none, .mov, [.t 0]⟩,
 ⟨some 22, none, .mov, [.t 1]⟩,
 ⟨some 23, none, .build [.int .i64 0, .int .i64 0, .nils, .bool false] [(0, 1), (1, 1)], [.t 21, .t 22]⟩,
 ⟨none, none, .store 4, [.t 4, .t 23]⟩,
 ⟨some 5, none, .mov, [.c (.int .i64 0)]⟩])
 .ret))
theorem i24 : fnInfo Try.prog 24 = some (24, [.c 4 (some 4), .t 5], ac24) := by kernel_rfl
def ac37_1 : AC :=
 .seq (.reg []
 [⟨some 9, none, .bin .lss .scal, [.t 8, .t 7]⟩])
 (.seq (.cond (.t 9)
 .skip
 (.exit 0))
 (.seq (.block 1 (.seq (.reg []
 [⟨some 10, none, .idxA 1, [.t 6, .t 8]⟩,
 ⟨some 11, none, .load none, [.t 10]⟩,
 ⟨some 5, none, .mov, [.t 11]⟩])
 (.seq (.reg []
 [⟨some 12, none, .mov, [.t 5]⟩,
 ⟨some 13, none, .mov, [.t 3]⟩,
 ⟨some 14, none, .bin .neq .scal, [.t 12, .t 13]⟩])
 (.cond (.t 14)
 (.seq (.reg []
 [⟨some 15, none, .mov, [.t 5]⟩,
 ⟨some 2, none, .mov, [.t 15]⟩])
 .ret)
 .skip))))
 (.reg []
 [⟨some 16, none, .bin .add .scal, [.t 8, .c (.int .i64 1)]⟩,
 ⟨some 8, none, .mov, [.t 16]⟩])))
/-- "cmp.Or[int]": 18 temporaries, 1 parameters, results some [.t 2]. -/
def ac37 : AC :=
 .seq (.reg []
 [⟨some 2, none, .mov, [.c (.int .i64 0)]⟩])
 (.seq (.reg []
 [⟨some 3, none, .mov, [.c (.int .i64 0)]⟩])
 (.seq (.seq (.reg []
 [⟨some 6, none, .mov, [.t 0]⟩,
 ⟨some 7, none, .lenL, [.t 6]⟩,
 ⟨some 8, none, .mov, [.c (.int .i64 0)]⟩])
 (.block 0 (.loop ac37_1)))
 (.seq (.reg []
 [⟨some 17, none, .mov, [.t 3]⟩,
 ⟨some 2, none, .mov, [.t 17]⟩])
 .ret)))
theorem i37 : fnInfo Try.prog 37 = some (18, [.t 2], ac37) := by kernel_rfl
/-- "cmp.Compare[uint32]": 20 temporaries, 2 parameters, results some [.t 4]. -/
def ac38 : AC :=
 .seq (.reg []
 [⟨some 4, none, .mov, [.c (.int .i64 0)]⟩])
 (.seq (.reg []
 [⟨some 7, none, .mov, [.t 0]⟩,
 ⟨some 8, none, .call 58, [.t 7]⟩,
 ⟨some 5, none, .mov, [.t 8]⟩])
 (.seq (.reg []
 [⟨some 9, none, .mov, [.t 1]⟩,
 ⟨some 10, none, .call 58, [.t 9]⟩,
 ⟨some 6, none, .mov, [.t 10]⟩])
 (.seq (.seq (.reg []
 [⟨some 11, none, .mov, [.t 5]⟩])
 (.cond (.t 11)
 (.seq (.seq (.reg []
 [⟨some 12, none, .mov, [.t 6]⟩])
 (.cond (.t 12)
 (.seq (.reg []
 [⟨some 4, none, .mov, [.c (.int .i64 0)]⟩])
 .ret)
 .skip))
 (.seq (.reg []
 [⟨some 4, none, .mov, [.c (.int .i64 (-1))]⟩])
 .ret))
 .skip))
 (.seq (.seq (.reg []
 [⟨some 13, none, .mov, [.t 6]⟩])
 (.cond (.t 13)
 (.seq (.reg []
 [⟨some 4, none, .mov, [.c (.int .i64 1)]⟩])
 .ret)
 .skip))
 (.seq (.seq (.reg []
 [⟨some 14, none, .mov, [.t 0]⟩,
 ⟨some 15, none, .mov, [.t 1]⟩,
 ⟨some 16, none, .bin .lss .scal, [.t 14, .t 15]⟩])
 (.cond (.t 16)
 (.seq (.reg []
 [⟨some 4, none, .mov, [.c (.int .i64 (-1))]⟩])
 .ret)
 .skip))
 (.seq (.seq (.reg []
 [⟨some 17, none, .mov, [.t 0]⟩,
 ⟨some 18, none, .mov, [.t 1]⟩,
 ⟨some 19, none, .bin .gtr .scal, [.t 17, .t 18]⟩])
 (.cond (.t 19)
 (.seq (.reg []
 [⟨some 4, none, .mov, [.c (.int .i64 1)]⟩])
 .ret)
 .skip))
 (.seq (.reg []
 [⟨some 4, none, .mov, [.c (.int .i64 0)]⟩])
 .ret)))))))
theorem i38 : fnInfo Try.prog 38 = some (20, [.t 4], ac38) := by kernel_rfl
/-- "crossroads/link.over": 6 temporaries, 1 parameters, results some [.t 2]. -/
def ac39 : AC :=
 .seq (.reg []
 [⟨some 1, none, .box, [.t 0]⟩,
 ⟨some 2, none, .mov, [.c (.int .i64 0)]⟩])
 (.seq (.seq (.reg []
 [⟨some 3, none, .fldA 0, [.t 1]⟩,
 ⟨some 4, none, .load none, [.t 3]⟩,
 ⟨some 5, none, .bin .eql .scal, [.t 4, .c (.int .i64 0)]⟩])
 (.cond (.t 5)
 (.seq (.reg []
 [⟨some 2, none, .mov, [.c (.int .i64 1)]⟩])
 .ret)
 .skip))
 (.seq (.reg []
 [⟨some 2, none, .mov, [.c (.int .i64 0)]⟩])
 .ret))
theorem i39 : fnInfo Try.prog 39 = some (6, [.t 2], ac39) := by kernel_rfl
/-- "cmp.Compare[int]": 20 temporaries, 2 parameters, results some [.t 4]. -/
def ac40 : AC :=
 .seq (.reg []
 [⟨some 4, none, .mov, [.c (.int .i64 0)]⟩])
 (.seq (.reg []
 [⟨some 7, none, .mov, [.t 0]⟩,
 ⟨some 8, none, .call 59, [.t 7]⟩,
 ⟨some 5, none, .mov, [.t 8]⟩])
 (.seq (.reg []
 [⟨some 9, none, .mov, [.t 1]⟩,
 ⟨some 10, none, .call 59, [.t 9]⟩,
 ⟨some 6, none, .mov, [.t 10]⟩])
 (.seq (.seq (.reg []
 [⟨some 11, none, .mov, [.t 5]⟩])
 (.cond (.t 11)
 (.seq (.seq (.reg []
 [⟨some 12, none, .mov, [.t 6]⟩])
 (.cond (.t 12)
 (.seq (.reg []
 [⟨some 4, none, .mov, [.c (.int .i64 0)]⟩])
 .ret)
 .skip))
 (.seq (.reg []
 [⟨some 4, none, .mov, [.c (.int .i64 (-1))]⟩])
 .ret))
 .skip))
 (.seq (.seq (.reg []
 [⟨some 13, none, .mov, [.t 6]⟩])
 (.cond (.t 13)
 (.seq (.reg []
 [⟨some 4, none, .mov, [.c (.int .i64 1)]⟩])
 .ret)
 .skip))
 (.seq (.seq (.reg []
 [⟨some 14, none, .mov, [.t 0]⟩,
 ⟨some 15, none, .mov, [.t 1]⟩,
 ⟨some 16, none, .bin .lss .scal, [.t 14, .t 15]⟩])
 (.cond (.t 16)
 (.seq (.reg []
 [⟨some 4, none, .mov, [.c (.int .i64 (-1))]⟩])
 .ret)
 .skip))
 (.seq (.seq (.reg []
 [⟨some 17, none, .mov, [.t 0]⟩,
 ⟨some 18, none, .mov, [.t 1]⟩,
 ⟨some 19, none, .bin .gtr .scal, [.t 17, .t 18]⟩])
 (.cond (.t 19)
 (.seq (.reg []
 [⟨some 4, none, .mov, [.c (.int .i64 1)]⟩])
 .ret)
 .skip))
 (.seq (.reg []
 [⟨some 4, none, .mov, [.c (.int .i64 0)]⟩])
 .ret)))))))
theorem i40 : fnInfo Try.prog 40 = some (20, [.t 4], ac40) := by kernel_rfl
def ac42_1 : AC :=
 .seq (.reg []
 [⟨some 18, none, .bin .lss .scal, [.t 17, .t 16]⟩])
 (.seq (.cond (.t 18)
 .skip
 (.exit 0))
 (.seq (.block 1 (.seq (.reg []
 [⟨some 19, none, .mov, [.t 17]⟩,
 ⟨some 20, none, .idxA 7, [.t 15, .t 17]⟩,
 ⟨some 21, none, .load (some 7), [.t 20]⟩,
 ⟨some 8, none, .alloc [.int .i64 0, .int .i64 0, .int .u64 0, .int .u32 0, .int .i64 0, .int .i64 0, .nils], []⟩,
 ⟨some 7, none, .mov, [.t 19]⟩,
 ⟨none, none, .store 7, [.t 8, .t 21]⟩])
 (.seq (.reg []
 [⟨some 22, none, .mov, [.t 1]⟩,
 ⟨some 23, none, .mov, [.t 7]⟩,
 ⟨some 24, none, .idxA 7, [.t 22, .t 23]⟩,
 ⟨some 25, none, .load (some 7), [.t 24]⟩,
 ⟨some 9, none, .alloc [.int .i64 0, .int .i64 0, .int .u64 0, .int .u32 0, .int .i64 0, .int .i64 0, .nils], []⟩,
 ⟨none, none, .store 7, [.t 9, .t 25]⟩])
 (.seq (.reg []
 [⟨some 26, none, .mov, [.t 2]⟩,
 ⟨some 27, none, .load (some 7), [.t 8]⟩,
 ⟨some 28, none, .load (some 7), [.t 9]⟩,
 ⟨some 29, none, .callv, [.t 26, .t 27, .t 28]⟩,
 ⟨some 30, none, .unNot, [.t 29]⟩])
 (.cond (.t 30)
 (.seq (.reg []
 [⟨some 6, none, .mov, [.c (.bool false)]⟩])
 .ret)
 .skip)))))
 (.reg []
 [⟨some 31, none, .bin .add .scal, [.t 17, .c (.int .i64 1)]⟩,
 ⟨some 17, none, .mov, [.t 31]⟩])))
/-- "slices.EqualFunc[[]crossroads/pdu.Lsp,[]crossroads/pdu.Lsp,crossroads/pdu.Lsp,crossroads/pdu.Lsp]": 32 temporaries, 3 parameters, results some [.t 6]. -/
def ac42 : AC :=
 .seq (.reg []
 [⟨some 6, none, .mov, [.c (.bool false)]⟩])
 (.seq (.seq (.reg []
 [⟨some 10, none, .mov, [.t 0]⟩,
 ⟨some 11, none, .lenL, [.t 10]⟩,
 ⟨some 12, none, .mov, [.t 1]⟩,
 ⟨some 13, none, .lenL, [.t 12]⟩,
 ⟨some 14, none, .bin .neq .scal, [.t 11, .t 13]⟩])
 (.cond (.t 14)
 (.seq (.reg []
 [⟨some 6, none, .mov, [.c (.bool false)]⟩])
 .ret)
 .skip))
 (.seq (.seq (.reg []
 [⟨some 15, none, .mov, [.t 0]⟩,
 ⟨some 16, none, .lenL, [.t 15]⟩,
 ⟨some 17, none, .mov, [.c (.int .i64 0)]⟩])
 (.block 0 (.loop ac42_1)))
 (.seq (.reg []
 [⟨some 6, none, .mov, [.c (.bool true)]⟩])
 .ret)))
theorem i42 : fnInfo Try.prog 42 = some (32, [.t 6], ac42) := by kernel_rfl
/-- "crossroads/link.Alike$1": 25 temporaries, 2 parameters, results some [.t 4]. -/
def ac43 : AC :=
 .seq (.reg []
 [⟨some 2, none, .box, [.t 0]⟩,
 ⟨some 3, none, .box, [.t 1]⟩,
 ⟨some 4, none, .mov, [.c (.bool false)]⟩])
 (.seq (.reg [[], [0], [], [2], [1, 3], [4], [5], [6, 5, 5], [5], [8, 7, 5], [7, 9, 9, 5], [10, 5], [5, 11], [12, 10], [13], [14, 13], [13], [16, 13], [15, 17, 13, 13], [13, 18], [19, 18, 0, 1, 2, 3, 4, 5, 6, 7, 8, 9, 10, 11, 12, 13, 14, 15, 16, 17, 18, 19]]
 [⟨some 5, none, .fldA 2, [.t 2]⟩,
 ⟨some 6, none, .load none, [.t 5]⟩,
 ⟨some 7, none, .fldA 2, [.t 3]⟩,
 ⟨some 8, none, .load none, [.t 7]⟩,
 ⟨some 9, none, .bin .eql .scal, [.t 6, .t 8]⟩,
 ⟨some 10, none, .mov, [.t 9]⟩,
 ⟨some 11, some (10, true), .load (some 7), [.t 2]⟩,
 ⟨some 12, some (10, true), .call 14, [.t 11]⟩,
 ⟨some 13, some (10, true), .load (some 7), [.t 3]⟩,
 ⟨some 14, some (10, true), .call 14, [.t 13]⟩,
 ⟨some 15, some (10, true), .call 8, [.t 12, .t 14]⟩,
 ⟨some 16, some (10, true), .bin .eql .scal, [.t 15, .c (.int .i64 0)]⟩,
 ⟨some 17, none, .pick, [.t 10, .t 16, .c (.bool false)]⟩,
 ⟨some 18, none, .mov, [.t 17]⟩,
 ⟨some 19, some (18, true), .fldA 6, [.t 2]⟩,
 ⟨some 20, some (18, true), .load none, [.t 19]⟩,
 ⟨some 21, some (18, true), .fldA 6, [.t 3]⟩,
 ⟨some 22, some (18, true), .load none, [.t 21]⟩,
 ⟨some 23, some (18, true), .call 44, [.t 20, .t 22, .f 45]⟩,
 ⟨some 24, none, .pick, [.t 18, .t 23, .c (.bool false)]⟩,
 ⟨some 4, none, .mov, [.t 24]⟩])
 .ret)
theorem i43 : fnInfo Try.prog 43 = some (25, [.t 4], ac43) := by kernel_rfl
def ac44_1 : AC :=
 .seq (.reg []
 [⟨some 18, none, .bin .lss .scal, [.t 17, .t 16]⟩])
 (.seq (.cond (.t 18)
 .skip
 (.exit 0))
 (.seq (.block 1 (.seq (.reg []
 [⟨some 19, none, .mov, [.t 17]⟩,
 ⟨some 20, none, .idxA 2, [.t 15, .t 17]⟩,
 ⟨some 21, none, .load (some 2), [.t 20]⟩,
 ⟨some 8, none, .alloc [.int .i64 0, .nils], []⟩,
 ⟨some 7, none, .mov, [.t 19]⟩,
 ⟨none, none, .store 2, [.t 8, .t 21]⟩])
 (.seq (.reg []
 [⟨some 22, none, .mov, [.t 1]⟩,
 ⟨some 23, none, .mov, [.t 7]⟩,
 ⟨some 24, none, .idxA 2, [.t 22, .t 23]⟩,
 ⟨some 25, none, .load (some 2), [.t 24]⟩,
 ⟨some 9, none, .alloc [.int .i64 0, .nils], []⟩,
 ⟨none, none, .store 2, [.t 9, .t 25]⟩])
 (.seq (.reg []
 [⟨some 26, none, .mov, [.t 2]⟩,
 ⟨some 27, none, .load (some 2), [.t 8]⟩,
 ⟨some 28, none, .load (some 2), [.t 9]⟩,
 ⟨some 29, none, .callv, [.t 26, .t 27, .t 28]⟩,
 ⟨some 30, none, .unNot, [.t 29]⟩])
 (.cond (.t 30)
 (.seq (.reg []
 [⟨some 6, none, .mov, [.c (.bool false)]⟩])
 .ret)
 .skip)))))
 (.reg []
 [⟨some 31, none, .bin .add .scal, [.t 17, .c (.int .i64 1)]⟩,
 ⟨some 17, none, .mov, [.t 31]⟩])))
/-- "slices.EqualFunc[[]crossroads/tlv.Thing,[]crossroads/tlv.Thing,crossroads/tlv.Thing,crossroads/tlv.Thing]": 32 temporaries, 3 parameters, results some [.t 6]. -/
def ac44 : AC :=
 .seq (.reg []
 [⟨some 6, none, .mov, [.c (.bool false)]⟩])
 (.seq (.seq (.reg []
 [⟨some 10, none, .mov, [.t 0]⟩,
 ⟨some 11, none, .lenL, [.t 10]⟩,
 ⟨some 12, none, .mov, [.t 1]⟩,
 ⟨some 13, none, .lenL, [.t 12]⟩,
 ⟨some 14, none, .bin .neq .scal, [.t 11, .t 13]⟩])
 (.cond (.t 14)
 (.seq (.reg []
 [⟨some 6, none, .mov, [.c (.bool false)]⟩])
 .ret)
 .skip))
 (.seq (.seq (.reg []
 [⟨some 15, none, .mov, [.t 0]⟩,
 ⟨some 16, none, .lenL, [.t 15]⟩,
 ⟨some 17, none, .mov, [.c (.int .i64 0)]⟩])
 (.block 0 (.loop ac44_1)))
 (.seq (.reg []
 [⟨some 6, none, .mov, [.c (.bool true)]⟩])
 .ret)))
theorem i44 : fnInfo Try.prog 44 = some (32, [.t 6], ac44) := by kernel_rfl
/-- "crossroads/link.isThing": 17 temporaries, 2 parameters, results some [.t 4]. -/
def ac45 : AC :=
 .seq (.reg []
 [⟨some 2, none, .box, [.t 0]⟩,
 ⟨some 3, none, .box, [.t 1]⟩,
 ⟨some 4, none, .mov, [.c (.bool false)]⟩])
 (.seq (.reg []
 [⟨some 5, none, .fldA 0, [.t 2]⟩,
 ⟨some 6, none, .load none, [.t 5]⟩,
 ⟨some 7, none, .fldA 0, [.t 3]⟩,
 ⟨some 8, none, .load none, [.t 7]⟩,
 ⟨some 9, none, .bin .eql .scal, [.t 6, .t 8]⟩,
 ⟨some 10, none, .mov, [.t 9]⟩,
 ⟨some 11, some (10, true), .fldA 1, [.t 2]⟩,
 ⟨some 12, some (10, true), .load none, [.t 11]⟩,
 ⟨some 13, some (10, true), .fldA 1, [.t 3]⟩,
 ⟨some 14, some (10, true), .load none, [.t 13]⟩,
 ⟨some 15, some (10, true), .call 60, [.t 12, .t 14]⟩,
 ⟨some 16, none, .pick, [.t 10, .t 15, .c (.bool false)]⟩,
 ⟨some 4, none, .mov, [.t 16]⟩])
 .ret)
theorem i45 : fnInfo Try.prog 45 = some (17, [.t 4], ac45) := by kernel_rfl
/-- "(crossroads/link.Base).isOf": 21 temporaries, 2 parameters, results some [.t 4]. -/
def ac48 : AC :=
 .seq (.reg []
 [⟨some 2, none, .box, [.t 0]⟩,
 ⟨some 3, none, .box, [.t 1]⟩,
 ⟨some 4, none, .mov, [.c (.bool false)]⟩])
 (.seq (.reg []
 [⟨some 8, none, .load (some 7), [.t 3]⟩,
 ⟨some 9, none, .call 61, [.t 8]⟩,
 ⟨some 7, none, .mov, [.t 9]⟩,
 ⟨some 10, none, .ext 0, [.t 7]⟩,
 ⟨some 11, none, .ext 1, [.t 7]⟩,
 ⟨some 5, none, .mov, [.t 10]⟩,
 ⟨some 6, none, .mov, [.t 11]⟩])
 (.seq (.reg []
 [⟨some 12, none, .mov, [.t 6]⟩,
 ⟨some 13, none, .bin .eql .scal, [.t 12, .c (.int .i64 0)]⟩,
 ⟨some 14, none, .mov, [.t 13]⟩,
 ⟨some 15, some (14, true), .fldA 0, [.t 3]⟩,
 ⟨some 16, some (14, true), .load none, [.t 15]⟩,
 ⟨some 17, some (14, true), .fldA 0, [.t 2]⟩,
 ⟨some 18, some (14, true), .load none, [.t 17]⟩,
 ⟨some 19, some (14, true), .bin .eql .scal, [.t 16, .t 18]⟩,
 ⟨some 20, none, .pick, [.t 14, .t 19, .c (.bool false)]⟩,
 ⟨some 4, none, .mov, [.t 20]⟩])
 .ret))
theorem i48 : fnInfo Try.prog 48 = some (21, [.t 4], ac48) := by kernel_rfl
/-- "(crossroads/link.Base).at": 12 temporaries, 2 parameters, results some [.t 4, .t 5]. -/
def ac49 : AC :=
 .seq (.reg []
 [⟨some 2, none, .box, [.t 0]⟩,
 ⟨some 4, none, .mov, [.c (.int .i64 0)]⟩,
 ⟨some 5, none, .mov, [.c (.bool false)]⟩])
 (.seq (.reg []
 [⟨some 6, none, .fldA 2, [.t 2]⟩,
 ⟨some 7, none, .load none, [.t 6]⟩,
 ⟨some 8, none, .mov, [.t 1]⟩,
 ⟨some 9, none, .call 62, [.t 7, .t 8, .f 63]⟩,
 ⟨some 10, none, .ext 0, [.t 9]⟩,
 ⟨some 11, none, .ext 1, [.t 9]⟩,
 ⟨some 4, none, .mov, [.t 10]⟩,
 ⟨some 5, none, .mov, [.t 11]⟩])
 .ret)
theorem i49 : fnInfo Try.prog 49 = some (12, [.t 4, .t 5], ac49) := by kernel_rfl
/-- "slices.Insert[[]crossroads/pdu.Lsp,crossroads/pdu.Lsp]": 95 temporaries, 3 parameters, results some [.t 6]. -/
def ac50 : AC :=
 .seq (.reg []
 [⟨some 6, none, .mov, [.c .nils]⟩])
 (.seq (.reg []
 [⟨some 10, none, .mov, [.t 0]⟩,
 ⟨some 11, none, .mov, [.t 1]⟩,
 ⟨some 12, none, .slice 7 true false, [.t 10, .t 11]⟩])
 (.seq (.reg []
 [⟨some 13, none, .mov, [.t 2]⟩,
 ⟨some 14, none, .lenL, [.t 13]⟩,
 ⟨some 7, none, .mov, [.t 14]⟩])
 (.seq (.seq (.reg []
 [⟨some 15, none, .mov, [.t 7]⟩,
 ⟨some 16, none, .bin .eql .scal, [.t 15, .c (.int .i64 0)]⟩])
 (.cond (.t 16)
 (.seq (.reg []
 [⟨some 17, none, .mov, [.t 0]⟩,
 ⟨some 6, none, .mov, [.t 17]⟩])
 .ret)
 .skip))
 (.seq (.reg []
 [⟨some 18, none, .mov, [.t 0]⟩,
 ⟨some 19, none, .lenL, [.t 18]⟩,
 ⟨some 8, none, .mov, [.t 19]⟩])
 (.seq (.seq (.reg []
 [⟨some 20, none, .mov, [.t 1]⟩,
 ⟨some 21, none, .mov, [.t 8]⟩,
 ⟨some 22, none, .bin .eql .scal, [.t 20, .t 21]⟩])
 (.cond (.t 22)
 (.seq (.reg []
 [⟨some 23, none, .mov, [.t 0]⟩,
 ⟨some 24, none, .mov, [.t 2]⟩,
 ⟨some 25, none, .append 7 34 72, [.t 23, .t 24]⟩,
 ⟨some 6, none, .mov, [.t 25]⟩])
 .ret)
 .skip))
 (.seq (.seq (.reg []
 [⟨some 26, none, .mov, [.t 8]⟩,
 ⟨some 27, none, .mov, [.t 7]⟩,
 ⟨some 28, none, .bin .add .scal, [.t 26, .t 27]⟩,
 ⟨some 29, none, .mov, [.t 0]⟩,
 ⟨some 30, none, .capL, [.t 29]⟩,
 ⟨some 31, none, .bin .gtr .scal, [.t 28, .t 30]⟩])
 (.cond (.t 31)
 (.seq (.reg []
 [⟨some 32, none, .mov, [.t 0]⟩,
 ⟨some 33, none, .mov, [.t 1]⟩,
 ⟨some 34, none, .slice 7 false true, [.t 32, .t 33]⟩,
 ⟨some 35, none, .mov, [.t 8]⟩,
 ⟨some 36, none, .mov, [.t 7]⟩,
 ⟨some 37, none, .bin .add .scal, [.t 35, .t 36]⟩,
 ⟨some 38, none, .mov, [.t 1]⟩,
 ⟨some 39, none, .bin .sub .scal, [.t 37, .t 38]⟩,
 ⟨some 40, none, .appendZ 7 34 72 [.int .i64 0, .int .i64 0, .int .u64 0, .int .u32 0, .int .i64 0, .int .i64 0, .nils], [.t 34, .t 39]⟩,
 ⟨some 9, none, .mov, [.t 40]⟩])
 (.seq (.reg []
 [⟨some 41, none, .mov, [.t 9]⟩,
 ⟨some 42, none, .mov, [.t 1]⟩,
 ⟨some 43, none, .slice 7 true false, [.t 41, .t 42]⟩,
 ⟨some 44, none, .mov, [.t 2]⟩,
 ⟨some 45, none, .copy 7, [.t 43, .t 44]⟩])
 (.seq (.reg [[], [], [], [1, 2], [0, 3], [], [], [5, 6], [4, 7]]
 [⟨some 46, none, .mov, [.t 9]⟩,
 ⟨some 47, none, .mov, [.t 1]⟩,
 ⟨some 48, none, .mov, [.t 7]⟩,
 ⟨some 49, none, .bin .add .scal, [.t 47, .t 48]⟩,
 ⟨some 50, none, .slice 7 true false, [.t 46, .t 49]⟩,
 ⟨some 51, none, .mov, [.t 0]⟩,
 ⟨some 52, none, .mov, [.t 1]⟩,
 ⟨some 53, none, .slice 7 true false, [.t 51, .t 52]⟩,
 ⟨some 54, none, .copy 7, [.t 50, .t 53]⟩])
 (.seq (.reg []
 [⟨some 55, none, .mov, [.t 9]⟩,
 ⟨some 6, none, .mov, [.t 55]⟩])
 .ret))))
 .skip))
 (.seq (.reg []
 [⟨some 56, none, .mov, [.t 0]⟩,
 ⟨some 57, none, .mov, [.t 8]⟩,
 ⟨some 58, none, .mov, [.t 7]⟩,
 ⟨some 59, none, .bin .add .scal, [.t 57, .t 58]⟩,
 ⟨some 60, none, .slice 7 false true, [.t 56, .t 59]⟩,
 ⟨some 0, none, .mov, [.t 60]⟩])
 (.seq (.seq (.reg []
 [⟨some 61, none, .mov, [.t 2]⟩,
 ⟨some 62, none, .mov, [.t 0]⟩,
 ⟨some 63, none, .mov, [.t 1]⟩,
 ⟨some 64, none, .mov, [.t 7]⟩,
 ⟨some 65, none, .bin .add .scal, [.t 63, .t 64]⟩,
 ⟨some 66, none, .slice 7 true false, [.t 62, .t 65]⟩,
 ⟨some 67, none, .call 65, [.t 61, .t 66]⟩,
 ⟨some 68, none, .unNot, [.t 67]⟩])
 (.cond (.t 68)
 (.seq (.reg [[], [], [], [1, 2], [0, 3], [], [], [5, 6], [4, 7]]
 [⟨some 69, none, .mov, [.t 0]⟩,
 ⟨some 70, none, .mov, [.t 1]⟩,
 ⟨some 71, none, .mov, [.t 7]⟩,
 ⟨some 72, none, .bin .add .scal, [.t 70, .t 71]⟩,
 ⟨some 73, none, .slice 7 true false, [.t 69, .t 72]⟩,
 ⟨some 74, none, .mov, [.t 0]⟩,
 ⟨some 75, none, .mov, [.t 1]⟩,
 ⟨some 76, none, .slice 7 true false, [.t 74, .t 75]⟩,
 ⟨some 77, none, .copy 7, [.t 73, .t 76]⟩])
 (.seq (.reg []
 [⟨some 78, none, .mov, [.t 0]⟩,
 ⟨some 79, none, .mov, [.t 1]⟩,
 ⟨some 80, none, .slice 7 true false, [.t 78, .t 79]⟩,
 ⟨some 81, none, .mov, [.t 2]⟩,
 ⟨some 82, none, .copy 7, [.t 80, .t 81]⟩])
 (.seq (.reg []
 [⟨some 83, none, .mov, [.t 0]⟩,
 ⟨some 6, none, .mov, [.t 83]⟩])
 .ret)))
 .skip))
 (.seq (.reg []
 [⟨some 84, none, .mov, [.t 0]⟩,
 ⟨some 85, none, .mov, [.t 8]⟩,
 ⟨some 86, none, .slice 7 true false, [.t 84, .t 85]⟩,
 ⟨some 87, none, .mov, [.t 2]⟩,
 ⟨some 88, none, .copy 7, [.t 86, .t 87]⟩])
 (.seq (.reg []
 [⟨some 89, none, .mov, [.t 0]⟩,
 ⟨some 90, none, .mov, [.t 1]⟩,
 ⟨some 91, none, .slice 7 true false, [.t 89, .t 90]⟩,
 ⟨some 92, none, .mov, [.t 7]⟩,
 ⟨some 93, none, .call 66, [.t 91, .t 92]⟩])
 (.seq (.reg []
 [⟨some 94, none, .mov, [.t 0]⟩,
 ⟨some 6, none, .mov, [.t 94]⟩])
 .ret)))))))))))
theorem i50 : fnInfo Try.prog 50 = some (95, [.t 6], ac50) := by kernel_rfl
/-- "slices.Clone[[]crossroads/pdu.Lsp,crossroads/pdu.Lsp]": 8 temporaries, 1 parameters, results some [.t 2]. -/
def ac51 : AC :=
 .seq (.reg []
 [⟨some 2, none, .mov, [.c .nils]⟩])
 (.seq (.seq (.reg []
 [⟨some 3, none, .mov, [.t 0]⟩,
 ⟨some 4, none, .bin .eql .sl, [.t 3, .c .nils]⟩])
 (.cond (.t 4)
 (.seq (.reg []
 [⟨some 2, none, .mov, [.c .nils]⟩])
 .ret)
 .skip))
 (.seq (.reg []
 [⟨some 5, none, .bslice 7 34, []⟩,
 ⟨some 6, none, .mov, [.t 0]⟩,
 ⟨some 7, none, .append 7 34 72, [.t 5, .t 6]⟩,
 ⟨some 2, none, .mov, [.t 7]⟩])
 .ret))
theorem i51 : fnInfo Try.prog 51 = some (8, [.t 2], ac51) := by kernel_rfl
/-- "cmp.isNaN[uint32]": 6 temporaries, 1 parameters, results some [.t 2]. -/
def ac58 : AC :=
 .seq (.reg []
 [⟨some 2, none, .mov, [.c (.bool false)]⟩])
 (.seq (.reg []
 [⟨some 3, none, .mov, [.t 0]⟩,
 ⟨some 4, none, .mov, [.t 0]⟩,
 ⟨some 5, none, .bin .neq .scal, [.t 3, .t 4]⟩,
 ⟨some 2, none, .mov, [.t 5]⟩])
 .ret)
theorem i58 : fnInfo Try.prog 58 = some (6, [.t 2], ac58) := by kernel_rfl
/-- "cmp.isNaN[int]": 6 temporaries, 1 parameters, results some [.t 2]. -/
def ac59 : AC :=
 .seq (.reg []
 [⟨some 2, none, .mov, [.c (.bool false)]⟩])
 (.seq (.reg []
 [⟨some 3, none, .mov, [.t 0]⟩,
 ⟨some 4, none, .mov, [.t 0]⟩,
 ⟨some 5, none, .bin .neq .scal, [.t 3, .t 4]⟩,
 ⟨some 2, none, .mov, [.t 5]⟩])
 .ret)
theorem i59 : fnInfo Try.prog 59 = some (6, [.t 2], ac59) := by kernel_rfl
/-- "bytes.Equal": 10 temporaries, 2 parameters, results some [.t 4]. -/
def ac60 : AC :=
 .seq (.reg []
 [⟨some 4, none, .mov, [.c (.bool false)]⟩])
 (.seq (.reg []
 [⟨some 5, none, .mov, [.t 0]⟩,
 ⟨some 6, none, .bstr, [.t 5]⟩,
 ⟨some 7, none, .mov, [.t 1]⟩,
 ⟨some 8, none, .bstr, [.t 7]⟩,
 ⟨some 9, none, .bin .eql .scal, [.t 6, .t 8]⟩,
 ⟨some 4, none, .mov, [.t 9]⟩])
 .ret)
theorem i60 : fnInfo Try.prog 60 = some (10, [.t 4], ac60) := by kernel_rfl
/-- "crossroads/pdu.PutLsp": 94 temporaries, 1 parameters, results some [.t 2, .t 3]. -/
def ac61 : AC :=
 .seq (.reg []
 [⟨some 1, none, .box, [.t 0]⟩,
 ⟨some 2, none, .mov, [.c .nils]⟩,
 ⟨some 3, none, .mov, [.c (.int .i64 0)]⟩])
 (.seq (.reg []
 [⟨some 10, none, .fldA 6, [.t 1]⟩,
 ⟨some 11, none, .load none, [.t 10]⟩,
 ⟨some 12, none, .call 69, [.t 11]⟩,
 ⟨some 9, none, .mov, [.t 12]⟩,
 ⟨some 13, none, .ext 0, [.t 9]⟩,
 ⟨some 14, none, .ext 1, [.t 9]⟩,
 ⟨some 4, none, .mov, [.t 13]⟩,
 ⟨some 5, none, .mov, [.t 14]⟩])
 (.seq (.reg []
 [⟨some 15, none, .call 70, [.c (.int .i64 18)]⟩,
 ⟨some 16, none, .mov, [.t 4]⟩,
 ⟨some 17, none, .lenL, [.t 16]⟩,
 ⟨some 18, none, .bin .add .scal, [.t 15, .t 17]⟩,
 ⟨some 6, none, .mov, [.t 18]⟩])
 (.seq (.seq (.reg []
 [⟨some 19, none, .mov, [.t 5]⟩,
 ⟨some 20, none, .bin .neq .scal, [.t 19, .c (.int .i64 0)]⟩,
 ⟨some 21, none, .mov, [.t 20]⟩,
 ⟨some 22, some (21, false), .fldA 0, [.t 1]⟩,
 ⟨some 23, some (21, false), .load none, [.t 22]⟩,
 ⟨some 24, some (21, false), .call 71, [.t 23]⟩,
 ⟨some 25, some (21, false), .unNot, [.t 24]⟩,
 ⟨some 26, none, .pick, [.t 21, .c (.bool true), .t 25]⟩,
 ⟨some 27, none, .mov, [.t 26]⟩,
 ⟨some 28, some (27, false), .fldA 1, [.t 1]⟩,
 ⟨some 29, some (27, false), .load none, [.t 28]⟩,
 ⟨some 30, some (27, false), .call 72, [.t 29, .c (.int .i64 65535)]⟩,
 ⟨some 31, some (27, false), .unNot, [.t 30]⟩,
 ⟨some 32, none, .pick, [.t 27, .c (.bool true), .t 31]⟩,
 ⟨some 33, none, .mov, [.t 32]⟩,
 ⟨some 34, some (33, false), .fldA 4, [.t 1]⟩,
 ⟨some 35, some (33, false), .load none, [.t 34]⟩,
 ⟨some 36, some (33, false), .call 72, [.t 35, .c (.int .i64 65535)]⟩,
 ⟨some 37, some (33, false), .unNot, [.t 36]⟩,
 ⟨some 38, none, .pick, [.t 33, .c (.bool true), .t 37]⟩,
 ⟨some 39, none, .mov, [.t 38]⟩,
 ⟨some 40, some (39, false), .fldA 5, [.t 1]⟩,
 ⟨some 41, some (39, false), .load none, [.t 40]⟩,
 ⟨some 42, some (39, false), .call 72, [.t 41, .c (.int .i64 63)]⟩,
 ⟨some 43, some (39, false), .unNot, [.t 42]⟩,
 ⟨some 44, none, .pick, [.t 39, .c (.bool true), .t 43]⟩,
 ⟨some 45, none, .mov, [.t 44]⟩,
 ⟨some 46, some (45, false), .mov, [.t 6]⟩,
 ⟨some 47, some (45, false), .bin .gtr .scal, [.t 46, .c (.int .i64 1492)]⟩,
 ⟨some 48, none, .pick, [.t 45, .c (.bool true), .t 47]⟩])
 (.cond (.t 48)
 (.seq (.reg []
 [⟨some 2, none, .mov, [.c .nils]⟩,
 ⟨some 3, none, .mov, [.c (.int .i64 1)]⟩])
 .ret)
 .skip))
 (.seq (.reg []
 [⟨some 7, none, .mov, [.c (.int .i64 18)]⟩])
 (.seq (.seq (.reg []
 [⟨some 49, none, .fldA 0, [.t 1]⟩,
 ⟨some 50, none, .load none, [.t 49]⟩,
 ⟨some 51, none, .bin .eql .scal, [.t 50, .c (.int .i64 2)]⟩])
 (.cond (.t 51)
 (.reg []
 [⟨some 7, none, .mov, [.c (.int .i64 20)]⟩])
 .skip))
 (.seq (.reg []
 [⟨some 52, none, .mov, [.t 7]⟩,
 ⟨some 53, none, .call 73, [.t 52]⟩,
 ⟨some 54, none, .build [.nils] [(0, 1)], [.t 53]⟩,
 ⟨some 55, none, .box, [.t 54]⟩,
 ⟨some 8, none, .mov, [.t 55]⟩])
 (.seq (.reg []
 [⟨some 56, none, .mov, [.t 8]⟩,
 ⟨some 57, none, .mov, [.t 6]⟩,
 ⟨some 58, none, .conv .u64, [.t 57]⟩,
 ⟨some 59, none, .call 74, [.t 56, .t 58, .c (.int .i64 2)]⟩])
 (.seq (.reg []
 [⟨some 60, none, .mov, [.t 8]⟩,
 ⟨some 61, none, .fldA 1, [.t 1]⟩,
 ⟨some 62, none, .load none, [.t 61]⟩,
 ⟨some 63, none, .conv .u64, [.t 62]⟩,
 ⟨some 64, none, .call 74, [.t 60, .t 63, .c (.int .i64 2)]⟩])
 (.seq (.reg []
 [⟨some 65, none, .mov, [.t 8]⟩,
 ⟨some 66, none, .fldA 2, [.t 1]⟩,
 ⟨some 67, none, .load none, [.t 66]⟩,
 ⟨some 68, none, .call 74, [.t 65, .t 67, .c (.int .i64 8)]⟩])
 (.seq (.reg []
 [⟨some 69, none, .mov, [.t 8]⟩,
 ⟨some 70, none, .fldA 3, [.t 1]⟩,
 ⟨some 71, none, .load none, [.t 70]⟩,
 ⟨some 72, none, .conv .u64, [.t 71]⟩,
 ⟨some 73, none, .call 74, [.t 69, .t 72, .c (.int .i64 4)]⟩])
 (.seq (.reg []
 [⟨some 74, none, .mov, [.t 8]⟩,
 ⟨some 75, none, .fldA 4, [.t 1]⟩,
 ⟨some 76, none, .load none, [.t 75]⟩,
 ⟨some 77, none, .conv .u64, [.t 76]⟩,
 ⟨some 78, none, .call 74, [.t 74, .t 77, .c (.int .i64 2)]⟩])
 (.seq (.reg []
 [⟨some 79, none, .mov, [.t 8]⟩,
 ⟨some 80, none, .fldA 5, [.t 1]⟩,
 ⟨some 81, none, .load none, [.t 80]⟩,
 ⟨some 82, none, .bin .shl .scal, [.t 81, .c (.int .u64 2)]⟩,
 ⟨some 83, none, .mov, [.t 7]⟩,
 ⟨some 84, none, .bin .sub .scal, [.t 83, .c (.int .i64 17)]⟩,
 ⟨some 85, none, .bin .or .scal, [.t 82, .t 84]⟩,
 ⟨some 86, none, .conv .u64, [.t 85]⟩,
 ⟨some 87, none, .call 74, [.t 79, .t 86, .c (.int .i64 1)]⟩])
 (.seq (.reg []
 [⟨some 88, none, .mov, [.t 8]⟩,
 ⟨some 89, none, .nilchk, [.t 88]⟩,
 ⟨some 90, none, .fldA 0, [.t 89]⟩,
 ⟨some 91, none, .load none, [.t 90]⟩,
 ⟨some 92, none, .mov, [.t 4]⟩,
 ⟨some 93, none, .append 1 5 1, [.t 91, .t 92]⟩,
 ⟨some 2, none, .mov, [.t 93]⟩,
 ⟨some 3, none, .mov, [.c (.int .i64 0)]⟩])
 .ret)))))))))))))
theorem i61 : fnInfo Try.prog 61 = some (94, [.t 2, .t 3], ac61) := by kernel_rfl
def ac62_1 : AC :=
 .seq (.seq (.reg []
 [⟨some 15, none, .mov, [.t 9]⟩,
 ⟨some 16, none, .mov, [.t 10]⟩,
 ⟨some 17, none, .bin .lss .scal, [.t 15, .t 16]⟩])
 (.cond (.t 17)
 .skip
 (.exit 0)))
 (.block 1 (.seq (.reg []
 [⟨some 18, none, .mov, [.t 9]⟩,
 ⟨some 19, none, .mov, [.t 10]⟩,
 ⟨some 20, none, .bin .add .scal, [.t 18, .t 19]⟩,
 ⟨some 21, none, .conv .u64, [.t 20]⟩,
 ⟨some 22, none, .bin .shr .scal, [.t 21, .c (.int .u64 1)]⟩,
 ⟨some 23, none, .conv .i64, [.t 22]⟩,
 ⟨some 11, none, .mov, [.t 23]⟩])
 (.seq (.reg []
 [⟨some 24, none, .mov, [.t 2]⟩,
 ⟨some 25, none, .mov, [.t 0]⟩,
 ⟨some 26, none, .mov, [.t 11]⟩,
 ⟨some 27, none, .idxA 7, [.t 25, .t 26]⟩,
 ⟨some 28, none, .load (some 7), [.t 27]⟩,
 ⟨some 29, none, .mov, [.t 1]⟩,
 ⟨some 30, none, .callv, [.t 24, .t 28, .t 29]⟩,
 ⟨some 31, none, .bin .lss .scal, [.t 30, .c (.int .i64 0)]⟩])
 (.cond (.t 31)
 (.reg []
 [⟨some 32, none, .mov, [.t 11]⟩,
 ⟨some 33, none, .bin .add .scal, [.t 32, .c (.int .i64 1)]⟩,
 ⟨some 9, none, .mov, [.t 33]⟩])
 (.reg []
 [⟨some 34, none, .mov, [.t 11]⟩,
 ⟨some 10, none, .mov, [.t 34]⟩])))))
/-- "slices.BinarySearchFunc[[]crossroads/pdu.Lsp,crossroads/pdu.Lsp,uint64]": 49 temporaries, 3 parameters, results some [.t 6, .t 7]. -/
def ac62 : AC :=
 .seq (.reg []
 [⟨some 6, none, .mov, [.c (.int .i64 0)]⟩,
 ⟨some 7, none, .mov, [.c (.bool false)]⟩])
 (.seq (.reg []
 [⟨some 12, none, .mov, [.t 0]⟩,
 ⟨some 13, none, .lenL, [.t 12]⟩,
 ⟨some 8, none, .mov, [.t 13]⟩])
 (.seq (.reg []
 [⟨some 14, none, .mov, [.t 8]⟩,
 ⟨some 9, none, .mov, [.c (.int .i64 0)]⟩,
 ⟨some 10, none, .mov, [.t 14]⟩])
 (.seq (.block 0 (.loop ac62_1))
 (.seq (.reg []
 [⟨some 35, none, .mov, [.t 9]⟩,
 ⟨some 36, none, .mov, [.t 9]⟩,
 ⟨some 37, none, .mov, [.t 8]⟩,
 ⟨some 38, none, .bin .lss .scal, [.t 36, .t 37]⟩,
 ⟨some 39, none, .mov, [.t 38]⟩,
 ⟨some 40, some (39, true), .mov, [.t 2]⟩,
 ⟨some 41, some (39, true), .mov, [.t 0]⟩,
 ⟨some 42, some (39, true), .mov, [.t 9]⟩,
 ⟨some 43, some (39, true), .idxA 7, [.t 41, .t 42]⟩,
 ⟨some 44, some (39, true), .load (some 7), [.t 43]⟩,
 ⟨some 45, some (39, true), .mov, [.t 1]⟩,
 ⟨some 46, some (39, true), .callv, [.t 40, .t 44, .t 45]⟩,
 ⟨some 47, some (39, true), .bin .eql .scal, [.t 46, .c (.int .i64 0)]⟩,
 ⟨some 48, none, .pick, [.t 39, .t 47, .c (.bool false)]⟩,
 ⟨some 6, none, .mov, [.t 35]⟩,
 ⟨some 7, none, .mov, [.t 48]⟩])
 .ret))))
theorem i62 : fnInfo Try.prog 62 = some (49, [.t 6, .t 7], ac62) := by kernel_rfl
/-- "(crossroads/link.Base).at$1": 9 temporaries, 2 parameters, results some [.t 4]. -/
def ac63 : AC :=
 .seq (.reg []
 [⟨some 2, none, .box, [.t 0]⟩,
 ⟨some 4, none, .mov, [.c (.int .i64 0)]⟩])
 (.seq (.reg []
 [⟨some 5, none, .fldA 2, [.t 2]⟩,
 ⟨some 6, none, .load none, [.t 5]⟩,
 ⟨some 7, none, .mov, [.t 1]⟩,
 ⟨some 8, none, .call 64, [.t 6, .t 7]⟩,
 ⟨some 4, none, .mov, [.t 8]⟩])
 .ret)
theorem i63 : fnInfo Try.prog 63 = some (9, [.t 4], ac63) := by kernel_rfl
/-- "cmp.Compare[uint64]": 20 temporaries, 2 parameters, results some [.t 4]. -/
def ac64 : AC :=
 .seq (.reg []
 [⟨some 4, none, .mov, [.c (.int .i64 0)]⟩])
 (.seq (.reg []
 [⟨some 7, none, .mov, [.t 0]⟩,
 ⟨some 8, none, .call 75, [.t 7]⟩,
 ⟨some 5, none, .mov, [.t 8]⟩])
 (.seq (.reg []
 [⟨some 9, none, .mov, [.t 1]⟩,
 ⟨some 10, none, .call 75, [.t 9]⟩,
 ⟨some 6, none, .mov, [.t 10]⟩])
 (.seq (.seq (.reg []
 [⟨some 11, none, .mov, [.t 5]⟩])
 (.cond (.t 11)
 (.seq (.seq (.reg []
 [⟨some 12, none, .mov, [.t 6]⟩])
 (.cond (.t 12)
 (.seq (.reg []
 [⟨some 4, none, .mov, [.c (.int .i64 0)]⟩])
 .ret)
 .skip))
 (.seq (.reg []
 [⟨some 4, none, .mov, [.c (.int .i64 (-1))]⟩])
 .ret))
 .skip))
 (.seq (.seq (.reg []
 [⟨some 13, none, .mov, [.t 6]⟩])
 (.cond (.t 13)
 (.seq (.reg []
 [⟨some 4, none, .mov, [.c (.int .i64 1)]⟩])
 .ret)
 .skip))
 (.seq (.seq (.reg []
 [⟨some 14, none, .mov, [.t 0]⟩,
 ⟨some 15, none, .mov, [.t 1]⟩,
 ⟨some 16, none, .bin .lss .scal, [.t 14, .t 15]⟩])
 (.cond (.t 16)
 (.seq (.reg []
 [⟨some 4, none, .mov, [.c (.int .i64 (-1))]⟩])
 .ret)
 .skip))
 (.seq (.seq (.reg []
 [⟨some 17, none, .mov, [.t 0]⟩,
 ⟨some 18, none, .mov, [.t 1]⟩,
 ⟨some 19, none, .bin .gtr .scal, [.t 17, .t 18]⟩])
 (.cond (.t 19)
 (.seq (.reg []
 [⟨some 4, none, .mov, [.c (.int .i64 1)]⟩])
 .ret)
 .skip))
 (.seq (.reg []
 [⟨some 4, none, .mov, [.c (.int .i64 0)]⟩])
 .ret)))))))
theorem i64 : fnInfo Try.prog 64 = some (20, [.t 4], ac64) := by kernel_rfl
def ac69_1 : AC :=
 .seq (.reg []
 [⟨some 10, none, .bin .lss .scal, [.t 9, .t 8]⟩])
 (.seq (.cond (.t 10)
 .skip
 (.exit 0))
 (.seq (.block 1 (.seq (.reg []
 [⟨some 11, none, .idxA 2, [.t 7, .t 9]⟩,
 ⟨some 12, none, .load (some 2), [.t 11]⟩,
 ⟨some 6, none, .alloc [.int .i64 0, .nils], []⟩,
 ⟨none, none, .store 2, [.t 6, .t 12]⟩])
 (.seq (.seq (.reg []
 [⟨some 13, none, .fldA 0, [.t 6]⟩,
 ⟨some 14, none, .load none, [.t 13]⟩,
 ⟨some 15, none, .bin .lss .scal, [.t 14, .c (.int .i64 0)]⟩,
 ⟨some 16, none, .mov, [.t 15]⟩,
 ⟨some 17, some (16, false), .fldA 0, [.t 6]⟩,
 ⟨some 18, some (16, false), .load none, [.t 17]⟩,
 ⟨some 19, some (16, false), .bin .gtr .scal, [.t 18, .c (.int .i64 255)]⟩,
 ⟨some 20, none, .pick, [.t 16, .c (.bool true), .t 19]⟩,
 ⟨some 21, none, .mov, [.t 20]⟩,
 ⟨some 22, some (21, false), .fldA 1, [.t 6]⟩,
 ⟨some 23, some (21, false), .load none, [.t 22]⟩,
 ⟨some 24, some (21, false), .lenL, [.t 23]⟩,
 ⟨some 25, some (21, false), .bin .gtr .scal, [.t 24, .c (.int .i64 255)]⟩,
 ⟨some 26, none, .pick, [.t 21, .c (.bool true), .t 25]⟩])
 (.cond (.t 26)
 (.seq (.reg []
 [⟨some 2, none, .mov, [.c .nils]⟩,
 ⟨some 3, none, .mov, [.c (.int .i64 1)]⟩])
 .ret)
 .skip))
 (.reg [[], [], [1], [2], [], [4], [5], [6], [3, 7], [0, 8], [], [10], [9, 11, 9], [12, 12, 0, 1, 2, 3, 4, 5, 6, 7, 8, 9, 10, 11, 12]]
 [⟨some 27, none, .mov, [.t 4]⟩,
 ⟨some 28, none, .fldA 0, [.t 6]⟩,
 ⟨some 29, none, .load none, [.t 28]⟩,
 ⟨some 30, none, .conv .u8, [.t 29]⟩,
 ⟨some 31, none, .fldA 1, [.t 6]⟩,
 ⟨some 32, none, .load none, [.t 31]⟩,
 ⟨some 33, none, .lenL, [.t 32]⟩,
 ⟨some 34, none, .conv .u8, [.t 33]⟩,
 ⟨some 35, none, .bslice 1 5, [.t 30, .t 34]⟩,
 ⟨some 36, none, .append 1 5 1, [.t 27, .t 35]⟩,
 ⟨some 37, none, .fldA 1, [.t 6]⟩,
 ⟨some 38, none, .load none, [.t 37]⟩,
 ⟨some 39, none, .append 1 5 1, [.t 36, .t 38]⟩,
 ⟨some 4, none, .mov, [.t 39]⟩]))))
 (.reg []
 [⟨some 40, none, .bin .add .scal, [.t 9, .c (.int .i64 1)]⟩,
 ⟨some 9, none, .mov, [.t 40]⟩])))
/-- "crossroads/tlv.Put": 42 temporaries, 1 parameters, results some [.t 2, .t 3]. -/
def ac69 : AC :=
 .seq (.reg []
 [⟨some 2, none, .mov, [.c .nils]⟩,
 ⟨some 3, none, .mov, [.c (.int .i64 0)]⟩])
 (.seq (.reg []
 [⟨some 4, none, .mov, [.c .nils]⟩])
 (.seq (.seq (.reg []
 [⟨some 7, none, .mov, [.t 0]⟩,
 ⟨some 8, none, .lenL, [.t 7]⟩,
 ⟨some 9, none, .mov, [.c (.int .i64 0)]⟩])
 (.block 0 (.loop ac69_1)))
 (.seq (.reg []
 [⟨some 41, none, .mov, [.t 4]⟩,
 ⟨some 2, none, .mov, [.t 41]⟩,
 ⟨some 3, none, .mov, [.c (.int .i64 0)]⟩])
 .ret)))
theorem i69 : fnInfo Try.prog 69 = some (42, [.t 2, .t 3], ac69) := by kernel_rfl
/-- "crossroads/pdu.headOf": 15 temporaries, 1 parameters, results some [.t 2]. -/
def ac70 : AC :=
 .seq (.reg []
 [⟨some 2, none, .mov, [.c (.int .i64 0)]⟩])
 (.seq (.seq (.reg []
 [⟨some 3, none, .mov, [.t 0]⟩])
 (.block 0 (.seq (.reg []
 [⟨some 5, none, .bin .eql .scal, [.t 3, .c (.int .i64 17)]⟩,
 ⟨some 4, none, .mov, [.t 5]⟩])
 (.cond (.t 4)
 (.seq (.reg []
 [⟨some 2, none, .mov, [.c (.int .i64 20)]⟩])
 .ret)
 (.seq (.seq (.reg []
 [⟨some 7, none, .bin .eql .scal, [.t 3, .c (.int .i64 18)]⟩,
 ⟨some 6, none, .mov, [.t 7]⟩])
 (.cond (.t 6)
 .skip
 (.reg []
 [⟨some 8, none, .bin .eql .scal, [.t 3, .c (.int .i64 20)]⟩,
 ⟨some 6, none, .mov, [.t 8]⟩])))
 (.cond (.t 6)
 (.seq (.reg []
 [⟨some 2, none, .mov, [.c (.int .i64 27)]⟩])
 .ret)
 (.seq (.seq (.reg []
 [⟨some 10, none, .bin .eql .scal, [.t 3, .c (.int .i64 24)]⟩,
 ⟨some 9, none, .mov, [.t 10]⟩])
 (.cond (.t 9)
 .skip
 (.reg []
 [⟨some 11, none, .bin .eql .scal, [.t 3, .c (.int .i64 25)]⟩,
 ⟨some 9, none, .mov, [.t 11]⟩])))
 (.cond (.t 9)
 (.seq (.reg []
 [⟨some 2, none, .mov, [.c (.int .i64 33)]⟩])
 .ret)
 (.seq (.seq (.reg []
 [⟨some 13, none, .bin .eql .scal, [.t 3, .c (.int .i64 26)]⟩,
 ⟨some 12, none, .mov, [.t 13]⟩])
 (.cond (.t 12)
 .skip
 (.reg []
 [⟨some 14, none, .bin .eql .scal, [.t 3, .c (.int .i64 27)]⟩,
 ⟨some 12, none, .mov, [.t 14]⟩])))
 (.cond (.t 12)
 (.seq (.reg []
 [⟨some 2, none, .mov, [.c (.int .i64 17)]⟩])
 .ret)
 .skip))))))))))
 (.seq (.reg []
 [⟨some 2, none, .mov, [.c (.int .i64 0)]⟩])
 .ret))
theorem i70 : fnInfo Try.prog 70 = some (15, [.t 2], ac70) := by kernel_rfl
/-- "crossroads/pdu.isLevel": 9 temporaries, 1 parameters, results some [.t 2]. -/
def ac71 : AC :=
 .seq (.reg []
 [⟨some 2, none, .mov, [.c (.bool false)]⟩])
 (.seq (.reg []
 [⟨some 3, none, .mov, [.t 0]⟩,
 ⟨some 4, none, .bin .eql .scal, [.t 3, .c (.int .i64 1)]⟩,
 ⟨some 5, none, .mov, [.t 4]⟩,
 ⟨some 6, some (5, false), .mov, [.t 0]⟩,
 ⟨some 7, some (5, false), .bin .eql .scal, [.t 6, .c (.int .i64 2)]⟩,
 ⟨some 8, none, .pick, [.t 5, .c (.bool true), .t 7]⟩,
 ⟨some 2, none, .mov, [.t 8]⟩])
 .ret)
theorem i71 : fnInfo Try.prog 71 = some (9, [.t 2], ac71) := by kernel_rfl
/-- "crossroads/pdu.isIn": 12 temporaries, 2 parameters, results some [.t 4]. -/
def ac72 : AC :=
 .seq (.reg []
 [⟨some 4, none, .mov, [.c (.bool false)]⟩])
 (.seq (.reg []
 [⟨some 5, none, .mov, [.t 0]⟩,
 ⟨some 6, none, .bin .geq .scal, [.t 5, .c (.int .i64 0)]⟩,
 ⟨some 7, none, .mov, [.t 6]⟩,
 ⟨some 8, some (7, true), .mov, [.t 0]⟩,
 ⟨some 9, some (7, true), .mov, [.t 1]⟩,
 ⟨some 10, some (7, true), .bin .leq .scal, [.t 8, .t 9]⟩,
 ⟨some 11, none, .pick, [.t 7, .t 10, .c (.bool false)]⟩,
 ⟨some 4, none, .mov, [.t 11]⟩])
 .ret)
theorem i72 : fnInfo Try.prog 72 = some (12, [.t 4], ac72) := by kernel_rfl
/-- "crossroads/pdu.begin": 9 temporaries, 1 parameters, results some [.t 2]. -/
def ac73 : AC :=
 .seq (.reg []
 [⟨some 2, none, .mov, [.c .nils]⟩])
 (.seq (.reg []
 [⟨some 3, none, .mov, [.t 0]⟩,
 ⟨some 4, none, .call 70, [.t 3]⟩,
 ⟨some 5, none, .conv .u8, [.t 4]⟩,
 ⟨some 6, none, .mov, [.t 0]⟩,
 ⟨some 7, none, .conv .u8, [.t 6]⟩,
 ⟨some 8, none, .bslice 1 5, [.c (.int .u8 131), .t 5, .c (.int .u8 1), .c (.int .u8 0), .t 7, .c (.int .u8 1), .c (.int .u8 0), .c (.int .u8 0)]⟩,
 ⟨some 2, none, .mov, [.t 8]⟩])
 .ret)
theorem i73 : fnInfo Try.prog 73 = some (9, [.t 2], ac73) := by kernel_rfl
def ac74_1 : AC :=
 .seq (.seq (.reg []
 [⟨some 9, none, .mov, [.t 6]⟩,
 ⟨some 10, none, .bin .geq .scal, [.t 9, .c (.int .i64 0)]⟩])
 (.cond (.t 10)
 .skip
 (.exit 0)))
 (.seq (.block 1 (.reg [[], [], [1], [2], [3], [], [], [6], [5, 7], [8], [9], [4, 10], [0, 0, 1, 2, 3, 4, 5, 6, 7, 8, 9, 10, 11], [12, 0, 1, 2, 3, 4, 5, 6, 7, 8, 9, 10, 11], [13, 11, 11, 0, 1, 2, 3, 4, 5, 6, 7, 8, 9, 10, 11]]
 [⟨some 13, none, .mov, [.t 0]⟩,
 ⟨some 14, none, .mov, [.t 0]⟩,
 ⟨some 15, none, .nilchk, [.t 14]⟩,
 ⟨some 16, none, .fldA 0, [.t 15]⟩,
 ⟨some 17, none, .load none, [.t 16]⟩,
 ⟨some 18, none, .mov, [.t 1]⟩,
 ⟨some 19, none, .mov, [.t 6]⟩,
 ⟨some 20, none, .bin .mul .scal, [.c (.int .i64 8), .t 19]⟩,
 ⟨some 21, none, .bin .shr .scal, [.t 18, .t 20]⟩,
 ⟨some 22, none, .conv .u8, [.t 21]⟩,
 ⟨some 23, none, .bslice 1 5, [.t 22]⟩,
 ⟨some 24, none, .append 1 5 1, [.t 17, .t 23]⟩,
 ⟨some 25, none, .nilchk, [.t 13]⟩,
 ⟨some 26, none, .fldA 0, [.t 25]⟩,
 ⟨none, none, .store 1, [.t 26, .t 24]⟩]))
 (.reg []
 [⟨some 11, none, .mov, [.t 6]⟩,
 ⟨some 12, none, .bin .sub .scal, [.t 11, .c (.int .i64 1)]⟩,
 ⟨some 6, none, .mov, [.t 12]⟩]))
/-- "(*crossroads/pdu.page).put": 27 temporaries, 3 parameters, results some []. -/
def ac74 : AC :=
 .seq (.reg []
 [⟨some 7, none, .mov, [.t 2]⟩,
 ⟨some 8, none, .bin .sub .scal, [.t 7, .c (.int .i64 1)]⟩,
 ⟨some 6, none, .mov, [.t 8]⟩])
 (.block 0 (.loop ac74_1))
theorem i74 : fnInfo Try.prog 74 = some (27, [], ac74) := by kernel_rfl
/-- "cmp.isNaN[uint64]": 6 temporaries, 1 parameters, results some [.t 2]. -/
def ac75 : AC :=
 .seq (.reg []
 [⟨some 2, none, .mov, [.c (.bool false)]⟩])
 (.seq (.reg []
 [⟨some 3, none, .mov, [.t 0]⟩,
 ⟨some 4, none, .mov, [.t 0]⟩,
 ⟨some 5, none, .bin .neq .scal, [.t 3, .t 4]⟩,
 ⟨some 2, none, .mov, [.t 5]⟩])
 .ret)
theorem i75 : fnInfo Try.prog 75 = some (6, [.t 2], ac75) := by kernel_rfl
end Go.Proofs.Ytpcpclbdajebjaa.Abs

/- The functions of the program as the abstract machine's code: each is what the model's code is turned into. -/
import Derived.Test.YtjcpkgnlnmajjaaGreatDoorA20
import Derived.Test.YtjcpkgnlnmajjaaGreatDoorP0
import Derived.Test.YtjcpkgnlnmajjaaGreatDoorProg
import Derived.KernelRfl
namespace Go.Proofs.YtjcpkgnlnmajjaaGreatDoor.Abs
open Go

theorem mixed : Tryz.prog.follows .mixedOrders = true := by kernel_rfl

/-- "crossroads/crossroadslaw07.PlistParse": 43 temporaries, 1 parameters, results some [.t 2]. -/
def ac4 : AC :=
 .seq (.reg []
 [⟨some 2, none, .mov, [.c (.bool false)]⟩])
 (.seq (.seq (.reg []
 [⟨some 7, none, .mov, [.t 0]⟩,
 ⟨some 8, none, .lenS, [.t 7]⟩,
 ⟨some 9, none, .bin .gtr .scal, [.t 8, .c (.int .i64 100)]⟩])
 (.cond (.t 9)
 (.seq (.reg []
 [⟨some 10, none, .call 11, []⟩,
 ⟨some 2, none, .mov, [.t 10]⟩])
 .ret)
 .skip))
 (.seq (.reg []
 [⟨some 12, none, .mov, [.t 0]⟩,
 ⟨some 13, none, .call 8, [.t 12]⟩,
 ⟨some 11, none, .mov, [.t 13]⟩,
 ⟨some 14, none, .ext 0, [.t 11]⟩,
 ⟨some 15, none, .ext 1, [.t 11]⟩,
 ⟨some 3, none, .alloc [.int .i64 0, .bool false, .int .u32 0, .int .i64 0, .int .i64 0, .int .i64 0], []⟩,
 ⟨none, none, .store 6, [.t 3, .t 14]⟩,
 ⟨some 4, none, .mov, [.t 15]⟩])
 (.seq (.reg []
 [⟨some 17, none, .mov, [.t 0]⟩,
 ⟨some 18, none, .call 17, [.t 17]⟩,
 ⟨some 16, none, .mov, [.t 18]⟩,
 ⟨some 19, none, .ext 0, [.t 16]⟩,
 ⟨some 20, none, .ext 1, [.t 16]⟩,
 ⟨some 5, none, .alloc [.int .i64 0, .bool false, .int .u32 0, .int .i64 0, .int .i64 0, .int .i64 0], []⟩,
 ⟨none, none, .store 6, [.t 5, .t 19]⟩,
 ⟨some 6, none, .mov, [.t 20]⟩])
 (.seq (.reg [[], [0, 0], [1], [2, 1, 1], [1], [3, 4, 1], [1, 5], [6, 3], [7], [7], [8, 9, 7], [7, 10], [11, 7], [12], [13, 12], [14, 12, 12], [15], [16, 15, 15], [15], [17, 18, 15], [15, 19, 12], [12, 20], [21, 17, 0, 1, 2, 3, 4, 5, 6, 7, 8, 9, 10, 11, 12, 13, 14, 15, 16, 17, 18, 19, 20, 21]]
 [⟨some 21, none, .call 11, []⟩,
 ⟨some 22, none, .mov, [.t 21]⟩,
 ⟨some 23, some (22, true), .load (some 6), [.t 3]⟩,
 ⟨some 24, some (22, true), .call 13, [.t 23]⟩,
 ⟨some 25, some (22, true), .load (some 6), [.t 5]⟩,
 ⟨some 26, some (22, true), .bin .eql (.flat [.int .i64, .bool, .int .u32, .int .i64, .int .i64, .int .i64]), [.t 24, .t 25]⟩,
 ⟨some 27, none, .pick, [.t 22, .t 26, .c (.bool false)]⟩,
 ⟨some 28, none, .mov, [.t 27]⟩,
 ⟨some 29, some (28, true), .mov, [.t 4]⟩,
 ⟨some 30, some (28, true), .mov, [.t 6]⟩,
 ⟨some 31, some (28, true), .bin .eql .scal, [.t 29, .t 30]⟩,
 ⟨some 32, none, .pick, [.t 28, .t 31, .c (.bool false)]⟩,
 ⟨some 33, none, .mov, [.t 32]⟩,
 ⟨some 34, some (33, true), .mov, [.t 4]⟩,
 ⟨some 35, some (33, true), .bin .neq .scal, [.t 34, .c (.int .i64 0)]⟩,
 ⟨some 36, some (33, true), .mov, [.t 35]⟩,
 ⟨some 37, some (36, false), .load (some 6), [.t 3]⟩,
 ⟨some 38, some (36, false), .call 9, [.t 37]⟩,
 ⟨some 39, some (36, false), .mov, [.t 0]⟩,
 ⟨some 40, some (36, false), .bin .eql .scal, [.t 38, .t 39]⟩,
 ⟨some 41, some (33, true), .pick, [.t 36, .c (.bool true), .t 40]⟩,
 ⟨some 42, none, .pick, [.t 33, .t 41, .c (.bool false)]⟩,
 ⟨some 2, none, .mov, [.t 42]⟩])
 .ret))))
theorem i4 : fnInfo Tryz.prog 4 = some (43, [.t 2], ac4) := by kernel_rfl
/-- "crossroads/plist.Parse": 70 temporaries, 1 parameters, results some [.c 2 (some 6), .t 3]. -/
def ac8 : AC :=
 .seq (.reg []
 [⟨some 2, none, .alloc [.int .i64 0, .bool false, .int .u32 0, .int .i64 0, .int .i64 0, .int .i64 0], []⟩,
 ⟨some 3, none, .mov, [.c (.int .i64 0)]⟩])
 (.seq (.reg []
 [⟨some 8, none, .mov, [.t 0]⟩,
 ⟨some 9, none, .call 30, [.t 8, .c (.str (bstr [32]))]⟩,
 ⟨some 4, none, .mov, [.t 9]⟩])
 (.seq (.seq (.reg []
 [⟨some 10, none, .mov, [.t 4]⟩,
 ⟨some 11, none, .lenL, [.t 10]⟩,
 ⟨some 12, none, .bin .lss .scal, [.t 11, .c (.int .i64 3)]⟩,
 ⟨some 13, none, .mov, [.t 12]⟩,
 ⟨some 14, some (13, false), .mov, [.t 4]⟩,
 ⟨some 15, some (13, false), .idxA 1, [.t 14, .c (.int .i64 0)]⟩,
 ⟨some 16, some (13, false), .load none, [.t 15]⟩,
 ⟨some 17, some (13, false), .call 31, [.t 16]⟩,
 ⟨some 18, some (13, false), .bin .eql .scal, [.t 17, .c (.int .i64 0)]⟩,
 ⟨some 19, none, .pick, [.t 13, .c (.bool true), .t 18]⟩,
 ⟨some 20, none, .mov, [.t 19]⟩,
 ⟨some 21, some (20, false), .mov, [.t 4]⟩,
 ⟨some 22, some (20, false), .idxA 1, [.t 21, .c (.int .i64 1)]⟩,
 ⟨some 23, some (20, false), .load none, [.t 22]⟩,
 ⟨some 24, some (20, false), .bin .neq .scal, [.t 23, .c (.str (bstr [112, 101, 114, 109, 105, 116]))]⟩,
 ⟨some 25, some (20, false), .mov, [.t 24]⟩,
 ⟨some 26, some (25, true), .mov, [.t 4]⟩,
 ⟨some 27, some (25, true), .idxA 1, [.t 26, .c (.int .i64 1)]⟩,
 ⟨some 28, some (25, true), .load none, [.t 27]⟩,
 ⟨some 29, some (25, true), .bin .neq .scal, [.t 28, .c (.str (bstr [100, 101, 110, 121]))]⟩,
 ⟨some 30, some (20, false), .pick, [.t 25, .t 29, .c (.bool false)]⟩,
 ⟨some 31, none, .pick, [.t 20, .c (.bool true), .t 30]⟩])
 (.cond (.t 31)
 (.seq (.reg []
 [⟨some 32, none, .build [.int .i64 0, .bool false, .int .u32 0, .int .i64 0, .int .i64 0, .int .i64 0] [], []⟩,
 ⟨none, none, .store 6, [.t 2, .t 32]⟩,
 ⟨some 3, none, .mov, [.c (.int .i64 3)]⟩])
 .ret)
 .skip))
 (.seq (.reg []
 [⟨some 34, none, .mov, [.t 4]⟩,
 ⟨some 35, none, .idxA 1, [.t 34, .c (.int .i64 2)]⟩,
 ⟨some 36, none, .load none, [.t 35]⟩,
 ⟨some 37, none, .call 32, [.t 36]⟩,
 ⟨some 33, none, .mov, [.t 37]⟩,
 ⟨some 38, none, .ext 0, [.t 33]⟩,
 ⟨some 39, none, .ext 1, [.t 33]⟩,
 ⟨some 5, none, .alloc [.int .u32 0, .int .i64 0], []⟩,
 ⟨none, none, .store 2, [.t 5, .t 38]⟩,
 ⟨some 6, none, .mov, [.t 39]⟩])
 (.seq (.reg [[], [0], [1], [2], [], [4], [5], [6], [], [3, 7, 8], [], [10, 9, 3, 0, 1, 2, 3, 4, 5, 6, 7, 8, 9, 10]]
 [⟨some 40, none, .mov, [.t 4]⟩,
 ⟨some 41, none, .idxA 1, [.t 40, .c (.int .i64 0)]⟩,
 ⟨some 42, none, .load none, [.t 41]⟩,
 ⟨some 43, none, .call 31, [.t 42]⟩,
 ⟨some 44, none, .mov, [.t 4]⟩,
 ⟨some 45, none, .idxA 1, [.t 44, .c (.int .i64 1)]⟩,
 ⟨some 46, none, .load none, [.t 45]⟩,
 ⟨some 47, none, .bin .eql .scal, [.t 46, .c (.str (bstr [112, 101, 114, 109, 105, 116]))]⟩,
 ⟨some 48, none, .load (some 2), [.t 5]⟩,
 ⟨some 49, none, .build [.int .i64 0, .bool false, .int .u32 0, .int .i64 0, .int .i64 0, .int .i64 0] [(0, 1), (1, 1), (2, 2)], [.t 43, .t 47, .t 48]⟩,
 ⟨some 7, none, .alloc [.int .i64 0, .bool false, .int .u32 0, .int .i64 0, .int .i64 0, .int .i64 0], []⟩,
 ⟨none, none, .store 6, [.t 7, .t 49]⟩])
 (.seq (.block 0 (.seq (.reg []
 [⟨some 51, none, .mov, [.t 6]⟩,
 ⟨some 52, none, .bin .eql .scal, [.t 51, .c (.int .i64 3)]⟩,
 ⟨some 53, none, .mov, [.t 52]⟩,
 ⟨some 54, some (53, false), .mov, [.t 4]⟩,
 ⟨some 55, some (53, false), .slice 1 true false, [.t 54, .c (.int .i64 3)]⟩,
 ⟨some 56, some (53, false), .call 33, [.t 7, .t 55]⟩,
 ⟨some 57, some (53, false), .unNot, [.t 56]⟩,
 ⟨some 58, none, .pick, [.t 53, .c (.bool true), .t 57]⟩,
 ⟨some 50, none, .mov, [.t 58]⟩])
 (.cond (.t 50)
 (.seq (.reg []
 [⟨some 59, none, .build [.int .i64 0, .bool false, .int .u32 0, .int .i64 0, .int .i64 0, .int .i64 0] [], []⟩,
 ⟨none, none, .store 6, [.t 2, .t 59]⟩,
 ⟨some 3, none, .mov, [.c (.int .i64 3)]⟩])
 .ret)
 (.seq (.reg []
 [⟨some 61, none, .mov, [.t 6]⟩,
 ⟨some 62, none, .bin .neq .scal, [.t 61, .c (.int .i64 0)]⟩,
 ⟨some 63, none, .mov, [.t 62]⟩,
 ⟨some 64, some (63, false), .load (some 6), [.t 7]⟩,
 ⟨some 65, some (63, false), .call 10, [.t 64]⟩,
 ⟨some 66, some (63, false), .unNot, [.t 65]⟩,
 ⟨some 67, none, .pick, [.t 63, .c (.bool true), .t 66]⟩,
 ⟨some 60, none, .mov, [.t 67]⟩])
 (.cond (.t 60)
 (.seq (.reg []
 [⟨some 68, none, .build [.int .i64 0, .bool false, .int .u32 0, .int .i64 0, .int .i64 0, .int .i64 0] [], []⟩,
 ⟨none, none, .store 6, [.t 2, .t 68]⟩,
 ⟨some 3, none, .mov, [.c (.int .i64 1)]⟩])
 .ret)
 .skip)))))
 (.seq (.reg []
 [⟨some 69, none, .load (some 6), [.t 7]⟩,
 ⟨none, none, .store 6, [.t 2, .t 69]⟩,
 ⟨some 3, none, .mov, [.c (.int .i64 0)]⟩])
 .ret))))))
theorem i8 : fnInfo Tryz.prog 8 = some (70, [.c 2 (some 6), .t 3], ac8) := by kernel_rfl
/-- "crossroads/plist.Text": 35 temporaries, 1 parameters, results some [.t 2]. -/
def ac9 : AC :=
 .seq (.reg []
 [⟨some 1, none, .box, [.t 0]⟩,
 ⟨some 2, none, .mov, [.c (.str (bstr []))]⟩])
 (.seq (.reg [[], [0], [1], [], [3], [4, 2], [2, 5], [6, 5, 0, 1, 2, 3, 4, 5, 6]]
 [⟨some 4, none, .fldA 0, [.t 1]⟩,
 ⟨some 5, none, .load none, [.t 4]⟩,
 ⟨some 6, none, .call 34, [.t 5]⟩,
 ⟨some 7, none, .fldA 2, [.t 1]⟩,
 ⟨some 8, none, .load (some 2), [.t 7]⟩,
 ⟨some 9, none, .call 35, [.t 8]⟩,
 ⟨some 10, none, .bslice 1 9, [.t 6, .c (.str (bstr [100, 101, 110, 121])), .t 9]⟩,
 ⟨some 3, none, .mov, [.t 10]⟩])
 (.seq (.seq (.reg []
 [⟨some 11, none, .fldA 1, [.t 1]⟩,
 ⟨some 12, none, .load none, [.t 11]⟩])
 (.cond (.t 12)
 (.reg []
 [⟨some 13, none, .mov, [.t 3]⟩,
 ⟨some 14, none, .idxA 1, [.t 13, .c (.int .i64 1)]⟩,
 ⟨none, none, .store 1, [.t 14, .c (.str (bstr [112, 101, 114, 109, 105, 116]))]⟩])
 .skip))
 (.seq (.seq (.reg []
 [⟨some 15, none, .fldA 4, [.t 1]⟩,
 ⟨some 16, none, .load none, [.t 15]⟩,
 ⟨some 17, none, .bin .neq .scal, [.t 16, .c (.int .i64 0)]⟩])
 (.cond (.t 17)
 (.reg []
 [⟨some 18, none, .mov, [.t 3]⟩,
 ⟨some 19, none, .fldA 4, [.t 1]⟩,
 ⟨some 20, none, .load none, [.t 19]⟩,
 ⟨some 21, none, .call 34, [.t 20]⟩,
 ⟨some 22, none, .bslice 1 9, [.c (.str (bstr [103, 101])), .t 21]⟩,
 ⟨some 23, none, .append 1 9 16, [.t 18, .t 22]⟩,
 ⟨some 3, none, .mov, [.t 23]⟩])
 .skip))
 (.seq (.seq (.reg []
 [⟨some 24, none, .fldA 5, [.t 1]⟩,
 ⟨some 25, none, .load none, [.t 24]⟩,
 ⟨some 26, none, .bin .neq .scal, [.t 25, .c (.int .i64 0)]⟩])
 (.cond (.t 26)
 (.reg []
 [⟨some 27, none, .mov, [.t 3]⟩,
 ⟨some 28, none, .fldA 5, [.t 1]⟩,
 ⟨some 29, none, .load none, [.t 28]⟩,
 ⟨some 30, none, .call 34, [.t 29]⟩,
 ⟨some 31, none, .bslice 1 9, [.c (.str (bstr [108, 101])), .t 30]⟩,
 ⟨some 32, none, .append 1 9 16, [.t 27, .t 31]⟩,
 ⟨some 3, none, .mov, [.t 32]⟩])
 .skip))
 (.seq (.reg []
 [⟨some 33, none, .mov, [.t 3]⟩,
 ⟨some 34, none, .call 36, [.t 33, .c (.str (bstr [32]))]⟩,
 ⟨some 2, none, .mov, [.t 34]⟩])
 .ret)))))
theorem i9 : fnInfo Tryz.prog 9 = some (35, [.t 2], ac9) := by kernel_rfl
/-- "crossroads/plist.May": 58 temporaries, 1 parameters, results some [.t 2]. -/
def ac10 : AC :=
 .seq (.reg []
 [⟨some 1, none, .box, [.t 0]⟩,
 ⟨some 2, none, .mov, [.c (.bool false)]⟩])
 (.seq (.seq (.reg []
 [⟨some 5, none, .fldA 0, [.t 1]⟩,
 ⟨some 6, none, .load none, [.t 5]⟩,
 ⟨some 7, none, .bin .lss .scal, [.t 6, .c (.int .i64 1)]⟩,
 ⟨some 8, none, .mov, [.t 7]⟩,
 ⟨some 9, some (8, false), .fldA 0, [.t 1]⟩,
 ⟨some 10, some (8, false), .load none, [.t 9]⟩,
 ⟨some 11, some (8, false), .bin .gtr .scal, [.t 10, .c (.int .i64 65535)]⟩,
 ⟨some 12, none, .pick, [.t 8, .c (.bool true), .t 11]⟩,
 ⟨some 13, none, .mov, [.t 12]⟩,
 ⟨some 14, some (13, false), .fldA 2, [.t 1]⟩,
 ⟨some 15, some (13, false), .load (some 2), [.t 14]⟩,
 ⟨some 16, some (13, false), .call 37, [.t 15]⟩,
 ⟨some 17, some (13, false), .unNot, [.t 16]⟩,
 ⟨some 18, none, .pick, [.t 13, .c (.bool true), .t 17]⟩])
 (.cond (.t 18)
 (.seq (.reg []
 [⟨some 2, none, .mov, [.c (.bool false)]⟩])
 .ret)
 .skip))
 (.seq (.reg []
 [⟨some 19, none, .fldA 4, [.t 1]⟩,
 ⟨some 20, none, .load none, [.t 19]⟩,
 ⟨some 21, none, .bin .eql .scal, [.t 20, .c (.int .i64 0)]⟩,
 ⟨some 22, none, .mov, [.t 21]⟩,
 ⟨some 23, some (22, false), .fldA 4, [.t 1]⟩,
 ⟨some 24, some (22, false), .load none, [.t 23]⟩,
 ⟨some 25, some (22, false), .fldA 2, [.t 1]⟩,
 ⟨some 26, some (22, false), .fldA 1, [.t 25]⟩,
 ⟨some 27, some (22, false), .load none, [.t 26]⟩,
 ⟨some 28, some (22, false), .bin .gtr .scal, [.t 24, .t 27]⟩,
 ⟨some 29, some (22, false), .mov, [.t 28]⟩,
 ⟨some 30, some (29, true), .fldA 4, [.t 1]⟩,
 ⟨some 31, some (29, true), .load none, [.t 30]⟩,
 ⟨some 32, some (29, true), .bin .leq .scal, [.t 31, .c (.int .i64 32)]⟩,
 ⟨some 33, some (22, false), .pick, [.t 29, .t 32, .c (.bool false)]⟩,
 ⟨some 34, none, .pick, [.t 22, .c (.bool true), .t 33]⟩,
 ⟨some 3, none, .mov, [.t 34]⟩])
 (.seq (.reg []
 [⟨some 35, none, .fldA 5, [.t 1]⟩,
 ⟨some 36, none, .load none, [.t 35]⟩,
 ⟨some 37, none, .bin .eql .scal, [.t 36, .c (.int .i64 0)]⟩,
 ⟨some 38, none, .mov, [.t 37]⟩,
 ⟨some 39, some (38, false), .fldA 5, [.t 1]⟩,
 ⟨some 40, some (38, false), .load none, [.t 39]⟩,
 ⟨some 41, some (38, false), .fldA 4, [.t 1]⟩,
 ⟨some 42, some (38, false), .load none, [.t 41]⟩,
 ⟨some 43, some (38, false), .fldA 2, [.t 1]⟩,
 ⟨some 44, some (38, false), .fldA 1, [.t 43]⟩,
 ⟨some 45, some (38, false), .load none, [.t 44]⟩,
 ⟨some 46, some (38, false), .minmax true, [.t 42, .t 45]⟩,
 ⟨some 47, some (38, false), .bin .geq .scal, [.t 40, .t 46]⟩,
 ⟨some 48, some (38, false), .mov, [.t 47]⟩,
 ⟨some 49, some (48, true), .fldA 5, [.t 1]⟩,
 ⟨some 50, some (48, true), .load none, [.t 49]⟩,
 ⟨some 51, some (48, true), .bin .leq .scal, [.t 50, .c (.int .i64 32)]⟩,
 ⟨some 52, some (38, false), .pick, [.t 48, .t 51, .c (.bool false)]⟩,
 ⟨some 53, none, .pick, [.t 38, .c (.bool true), .t 52]⟩,
 ⟨some 4, none, .mov, [.t 53]⟩])
 (.seq (.reg []
 [⟨some 54, none, .mov, [.t 3]⟩,
 ⟨some 55, none, .mov, [.t 54]⟩,
 ⟨some 56, some (55, true), .mov, [.t 4]⟩,
 ⟨some 57, none, .pick, [.t 55, .t 56, .c (.bool false)]⟩,
 ⟨some 2, none, .mov, [.t 57]⟩])
 .ret))))
theorem i10 : fnInfo Tryz.prog 10 = some (58, [.t 2], ac10) := by kernel_rfl
/-- "crossroads/crossroadslaw07.alive": 25 temporaries, 0 parameters, results some [.t 0]. -/
def ac11 : AC :=
 .seq (.reg []
 [⟨some 0, none, .mov, [.c (.bool false)]⟩])
 (.seq (.reg []
 [⟨some 4, none, .call 8, [.c (.str (bstr [53, 32, 112, 101, 114, 109, 105, 116, 32, 49, 48, 46, 48, 46, 48, 46, 48, 47, 56, 32, 108, 101, 32, 50, 52]))]⟩,
 ⟨some 3, none, .mov, [.t 4]⟩,
 ⟨some 5, none, .ext 0, [.t 3]⟩,
 ⟨some 6, none, .ext 1, [.t 3]⟩,
 ⟨some 1, none, .alloc [.int .i64 0, .bool false, .int .u32 0, .int .i64 0, .int .i64 0, .int .i64 0], []⟩,
 ⟨none, none, .store 6, [.t 1, .t 5]⟩,
 ⟨some 2, none, .mov, [.t 6]⟩])
 (.seq (.reg []
 [⟨some 7, none, .mov, [.t 2]⟩,
 ⟨some 8, none, .bin .eql .scal, [.t 7, .c (.int .i64 0)]⟩,
 ⟨some 9, none, .mov, [.t 8]⟩,
 ⟨some 10, some (9, true), .load (some 6), [.t 1]⟩,
 ⟨some 11, some (9, true), .build [.int .u32 0, .int .i64 0] [(0, 1), (1, 1)], [.c (.int .u32 167837696), .c (.int .i64 16)]⟩,
 ⟨some 12, some (9, true), .call 14, [.t 10, .t 11]⟩,
 ⟨some 13, none, .pick, [.t 9, .t 12, .c (.bool false)]⟩,
 ⟨some 14, none, .mov, [.t 13]⟩,
 ⟨some 15, some (14, true), .load (some 6), [.t 1]⟩,
 ⟨some 16, some (14, true), .build [.int .u32 0, .int .i64 0] [(0, 1), (1, 1)], [.c (.int .u32 167837952), .c (.int .i64 25)]⟩,
 ⟨some 17, some (14, true), .call 14, [.t 15, .t 16]⟩,
 ⟨some 18, some (14, true), .unNot, [.t 17]⟩,
 ⟨some 19, none, .pick, [.t 14, .t 18, .c (.bool false)]⟩,
 ⟨some 20, none, .mov, [.t 19]⟩,
 ⟨some 21, some (20, true), .load (some 6), [.t 1]⟩,
 ⟨some 22, some (20, true), .call 9, [.t 21]⟩,
 ⟨some 23, some (20, true), .bin .eql .scal, [.t 22, .c (.str (bstr [53, 32, 112, 101, 114, 109, 105, 116, 32, 49, 48, 46, 48, 46, 48, 46, 48, 47, 56, 32, 108, 101, 32, 50, 52]))]⟩,
 ⟨some 24, none, .pick, [.t 20, .t 23, .c (.bool false)]⟩,
 ⟨some 0, none, .mov, [.t 24]⟩])
 .ret))
theorem i11 : fnInfo Tryz.prog 11 = some (25, [.t 0], ac11) := by kernel_rfl
/-- "crossroads/crossroadsref07.May": 56 temporaries, 1 parameters, results some [.t 2]. -/
def ac12 : AC :=
 .seq (.reg []
 [⟨some 1, none, .box, [.t 0]⟩,
 ⟨some 2, none, .mov, [.c (.bool false)]⟩])
 (.seq (.seq (.reg []
 [⟨some 3, none, .fldA 0, [.t 1]⟩,
 ⟨some 4, none, .load none, [.t 3]⟩,
 ⟨some 5, none, .bin .lss .scal, [.t 4, .c (.int .i64 1)]⟩,
 ⟨some 6, none, .mov, [.t 5]⟩,
 ⟨some 7, some (6, false), .fldA 0, [.t 1]⟩,
 ⟨some 8, some (6, false), .load none, [.t 7]⟩,
 ⟨some 9, some (6, false), .bin .gtr .scal, [.t 8, .c (.int .i64 65535)]⟩,
 ⟨some 10, none, .pick, [.t 6, .c (.bool true), .t 9]⟩,
 ⟨some 11, none, .mov, [.t 10]⟩,
 ⟨some 12, some (11, false), .fldA 2, [.t 1]⟩,
 ⟨some 13, some (11, false), .load (some 2), [.t 12]⟩,
 ⟨some 14, some (11, false), .call 38, [.t 13]⟩,
 ⟨some 15, some (11, false), .unNot, [.t 14]⟩,
 ⟨some 16, none, .pick, [.t 11, .c (.bool true), .t 15]⟩])
 (.cond (.t 16)
 (.seq (.reg []
 [⟨some 2, none, .mov, [.c (.bool false)]⟩])
 .ret)
 .skip))
 (.seq (.seq (.reg []
 [⟨some 17, none, .fldA 4, [.t 1]⟩,
 ⟨some 18, none, .load none, [.t 17]⟩,
 ⟨some 19, none, .bin .neq .scal, [.t 18, .c (.int .i64 0)]⟩,
 ⟨some 20, none, .mov, [.t 19]⟩,
 ⟨some 21, some (20, true), .fldA 4, [.t 1]⟩,
 ⟨some 22, some (20, true), .load none, [.t 21]⟩,
 ⟨some 23, some (20, true), .fldA 2, [.t 1]⟩,
 ⟨some 24, some (20, true), .fldA 1, [.t 23]⟩,
 ⟨some 25, some (20, true), .load none, [.t 24]⟩,
 ⟨some 26, some (20, true), .bin .leq .scal, [.t 22, .t 25]⟩,
 ⟨some 27, some (20, true), .mov, [.t 26]⟩,
 ⟨some 28, some (27, false), .fldA 4, [.t 1]⟩,
 ⟨some 29, some (27, false), .load none, [.t 28]⟩,
 ⟨some 30, some (27, false), .bin .gtr .scal, [.t 29, .c (.int .i64 32)]⟩,
 ⟨some 31, some (20, true), .pick, [.t 27, .c (.bool true), .t 30]⟩,
 ⟨some 32, none, .pick, [.t 20, .t 31, .c (.bool false)]⟩])
 (.cond (.t 32)
 (.seq (.reg []
 [⟨some 2, none, .mov, [.c (.bool false)]⟩])
 .ret)
 .skip))
 (.seq (.reg []
 [⟨some 33, none, .fldA 5, [.t 1]⟩,
 ⟨some 34, none, .load none, [.t 33]⟩,
 ⟨some 35, none, .bin .eql .scal, [.t 34, .c (.int .i64 0)]⟩,
 ⟨some 36, none, .mov, [.t 35]⟩,
 ⟨some 37, some (36, false), .fldA 5, [.t 1]⟩,
 ⟨some 38, some (36, false), .load none, [.t 37]⟩,
 ⟨some 39, some (36, false), .fldA 4, [.t 1]⟩,
 ⟨some 40, some (36, false), .load none, [.t 39]⟩,
 ⟨some 41, some (36, false), .bin .geq .scal, [.t 38, .t 40]⟩,
 ⟨some 42, some (36, false), .mov, [.t 41]⟩,
 ⟨some 43, some (42, true), .fldA 5, [.t 1]⟩,
 ⟨some 44, some (42, true), .load none, [.t 43]⟩,
 ⟨some 45, some (42, true), .fldA 2, [.t 1]⟩,
 ⟨some 46, some (42, true), .fldA 1, [.t 45]⟩,
 ⟨some 47, some (42, true), .load none, [.t 46]⟩,
 ⟨some 48, some (42, true), .bin .geq .scal, [.t 44, .t 47]⟩,
 ⟨some 49, some (36, false), .pick, [.t 42, .t 48, .c (.bool false)]⟩,
 ⟨some 50, some (36, false), .mov, [.t 49]⟩,
 ⟨some 51, some (50, true), .fldA 5, [.t 1]⟩,
 ⟨some 52, some (50, true), .load none, [.t 51]⟩,
 ⟨some 53, some (50, true), .bin .leq .scal, [.t 52, .c (.int .i64 32)]⟩,
 ⟨some 54, some (36, false), .pick, [.t 50, .t 53, .c (.bool false)]⟩,
 ⟨some 55, none, .pick, [.t 36, .c (.bool true), .t 54]⟩,
 ⟨some 2, none, .mov, [.t 55]⟩])
 .ret)))
theorem i12 : fnInfo Tryz.prog 12 = some (56, [.t 2], ac12) := by kernel_rfl
/-- "crossroads/crossroadslaw07.plain": 14 temporaries, 1 parameters, results some [.c 2 (some 6)]. -/
def ac13 : AC :=
 .seq (.reg []
 [⟨some 1, none, .box, [.t 0]⟩,
 ⟨some 2, none, .alloc [.int .i64 0, .bool false, .int .u32 0, .int .i64 0, .int .i64 0, .int .i64 0], []⟩])
 (.seq (.reg []
 [⟨some 3, none, .fldA 0, [.t 1]⟩,
 ⟨some 4, none, .load none, [.t 3]⟩,
 ⟨some 5, none, .fldA 1, [.t 1]⟩,
 ⟨some 6, none, .load none, [.t 5]⟩,
 ⟨some 7, none, .fldA 2, [.t 1]⟩,
 ⟨some 8, none, .load (some 2), [.t 7]⟩,
 ⟨some 9, none, .fldA 4, [.t 1]⟩,
 ⟨some 10, none, .load none, [.t 9]⟩,
 ⟨some 11, none, .fldA 5, [.t 1]⟩,
 ⟨some 12, none, .load none, [.t 11]⟩,
 ⟨some 13, none, .build [.int .i64 0, .bool false, .int .u32 0, .int .i64 0, .int .i64 0, .int .i64 0] [(0, 1), (1, 1), (2, 2), (4, 1), (5, 1)], [.t 4, .t 6, .t 8, .t 10, .t 12]⟩,
 ⟨none, none, .store 6, [.t 2, .t 13]⟩])
 .ret)
theorem i13 : fnInfo Tryz.prog 13 = some (14, [.c 2 (some 6)], ac13) := by kernel_rfl
/-- "crossroads/plist.Means": 32 temporaries, 2 parameters, results some [.t 4]. -/
def ac14 : AC :=
 .seq (.reg []
 [⟨some 2, none, .box, [.t 0]⟩,
 ⟨some 3, none, .box, [.t 1]⟩,
 ⟨some 4, none, .mov, [.c (.bool false)]⟩])
 (.seq (.reg []
 [⟨some 8, none, .load (some 6), [.t 2]⟩,
 ⟨some 9, none, .call 39, [.t 8]⟩,
 ⟨some 7, none, .mov, [.t 9]⟩,
 ⟨some 10, none, .ext 0, [.t 7]⟩,
 ⟨some 11, none, .ext 1, [.t 7]⟩,
 ⟨some 5, none, .mov, [.t 10]⟩,
 ⟨some 6, none, .mov, [.t 11]⟩])
 (.seq (.reg []
 [⟨some 12, none, .load (some 6), [.t 2]⟩,
 ⟨some 13, none, .call 10, [.t 12]⟩,
 ⟨some 14, none, .mov, [.t 13]⟩,
 ⟨some 15, some (14, true), .fldA 2, [.t 2]⟩,
 ⟨some 16, some (14, true), .load (some 2), [.t 15]⟩,
 ⟨some 17, some (14, true), .load (some 2), [.t 3]⟩,
 ⟨some 18, some (14, true), .call 40, [.t 16, .t 17]⟩,
 ⟨some 19, none, .pick, [.t 14, .t 18, .c (.bool false)]⟩,
 ⟨some 20, none, .mov, [.t 19]⟩,
 ⟨some 21, some (20, true), .fldA 1, [.t 3]⟩,
 ⟨some 22, some (20, true), .load none, [.t 21]⟩,
 ⟨some 23, some (20, true), .mov, [.t 5]⟩,
 ⟨some 24, some (20, true), .bin .geq .scal, [.t 22, .t 23]⟩,
 ⟨some 25, none, .pick, [.t 20, .t 24, .c (.bool false)]⟩,
 ⟨some 26, none, .mov, [.t 25]⟩,
 ⟨some 27, some (26, true), .fldA 1, [.t 3]⟩,
 ⟨some 28, some (26, true), .load none, [.t 27]⟩,
 ⟨some 29, some (26, true), .mov, [.t 6]⟩,
 ⟨some 30, some (26, true), .bin .leq .scal, [.t 28, .t 29]⟩,
 ⟨some 31, none, .pick, [.t 26, .t 30, .c (.bool false)]⟩,
 ⟨some 4, none, .mov, [.t 31]⟩])
 .ret))
theorem i14 : fnInfo Tryz.prog 14 = some (32, [.t 4], ac14) := by kernel_rfl
def ac17_1 : AC :=
 .seq (.seq (.reg []
 [⟨some 71, none, .mov, [.t 8]⟩,
 ⟨some 72, none, .mov, [.t 4]⟩,
 ⟨some 73, none, .lenL, [.t 72]⟩,
 ⟨some 74, none, .bin .lss .scal, [.t 71, .t 73]⟩])
 (.cond (.t 74)
 .skip
 (.exit 0)))
 (.seq (.block 1 (.seq (.reg []
 [⟨some 77, none, .mov, [.t 4]⟩,
 ⟨some 78, none, .mov, [.t 8]⟩,
 ⟨some 79, none, .bin .add .scal, [.t 78, .c (.int .i64 1)]⟩,
 ⟨some 80, none, .idxA 1, [.t 77, .t 79]⟩,
 ⟨some 81, none, .load none, [.t 80]⟩,
 ⟨some 82, none, .call 46, [.t 81]⟩,
 ⟨some 9, none, .mov, [.t 82]⟩])
 (.seq (.seq (.reg []
 [⟨some 83, none, .mov, [.t 9]⟩,
 ⟨some 84, none, .bin .eql .scal, [.t 83, .c (.int .i64 0)]⟩])
 (.cond (.t 84)
 (.seq (.reg []
 [⟨some 85, none, .build [.int .i64 0, .bool false, .int .u32 0, .int .i64 0, .int .i64 0, .int .i64 0] [], []⟩,
 ⟨none, none, .store 6, [.t 2, .t 85]⟩,
 ⟨some 3, none, .mov, [.c (.int .i64 3)]⟩])
 .ret)
 .skip))
 (.seq (.reg []
 [⟨some 86, none, .mov, [.t 4]⟩,
 ⟨some 87, none, .mov, [.t 8]⟩,
 ⟨some 88, none, .idxA 1, [.t 86, .t 87]⟩,
 ⟨some 89, none, .load none, [.t 88]⟩,
 ⟨some 90, none, .bin .eql .scal, [.t 89, .c (.str (bstr [103, 101]))]⟩,
 ⟨some 91, none, .mov, [.t 90]⟩,
 ⟨some 92, some (91, true), .mov, [.t 8]⟩,
 ⟨some 93, some (91, true), .bin .eql .scal, [.t 92, .c (.int .i64 3)]⟩,
 ⟨some 94, none, .pick, [.t 91, .t 93, .c (.bool false)]⟩])
 (.cond (.t 94)
 (.reg []
 [⟨some 95, none, .mov, [.t 9]⟩,
 ⟨some 96, none, .fldA 4, [.t 5]⟩,
 ⟨none, none, .store 1, [.t 96, .t 95]⟩])
 (.seq (.reg []
 [⟨some 97, none, .mov, [.t 4]⟩,
 ⟨some 98, none, .mov, [.t 8]⟩,
 ⟨some 99, none, .idxA 1, [.t 97, .t 98]⟩,
 ⟨some 100, none, .load none, [.t 99]⟩,
 ⟨some 101, none, .bin .eql .scal, [.t 100, .c (.str (bstr [108, 101]))]⟩,
 ⟨some 102, none, .mov, [.t 101]⟩,
 ⟨some 103, some (102, true), .mov, [.t 8]⟩,
 ⟨some 104, some (102, true), .mov, [.t 4]⟩,
 ⟨some 105, some (102, true), .lenL, [.t 104]⟩,
 ⟨some 106, some (102, true), .bin .sub .scal, [.t 105, .c (.int .i64 2)]⟩,
 ⟨some 107, some (102, true), .bin .eql .scal, [.t 103, .t 106]⟩,
 ⟨some 108, none, .pick, [.t 102, .t 107, .c (.bool false)]⟩])
 (.cond (.t 108)
 (.reg []
 [⟨some 109, none, .mov, [.t 9]⟩,
 ⟨some 110, none, .fldA 5, [.t 5]⟩,
 ⟨none, none, .store 1, [.t 110, .t 109]⟩])
 (.seq (.reg []
 [⟨some 111, none, .build [.int .i64 0, .bool false, .int .u32 0, .int .i64 0, .int .i64 0, .int .i64 0] [], []⟩,
 ⟨none, none, .store 6, [.t 2, .t 111]⟩,
 ⟨some 3, none, .mov, [.c (.int .i64 3)]⟩])
 .ret))))))))
 (.reg []
 [⟨some 75, none, .mov, [.t 8]⟩,
 ⟨some 76, none, .bin .add .scal, [.t 75, .c (.int .i64 2)]⟩,
 ⟨some 8, none, .mov, [.t 76]⟩]))
/-- "crossroads/crossroadsref07.Parse": 121 temporaries, 1 parameters, results some [.c 2 (some 6), .t 3]. -/
def ac17 : AC :=
 .seq (.reg []
 [⟨some 2, none, .alloc [.int .i64 0, .bool false, .int .u32 0, .int .i64 0, .int .i64 0, .int .i64 0], []⟩,
 ⟨some 3, none, .mov, [.c (.int .i64 0)]⟩])
 (.seq (.seq (.reg []
 [⟨some 10, none, .mov, [.t 0]⟩,
 ⟨some 11, none, .lenS, [.t 10]⟩,
 ⟨some 12, none, .bin .gtr .scal, [.t 11, .c (.int .i64 100)]⟩])
 (.cond (.t 12)
 (.seq (.reg []
 [⟨some 13, none, .build [.int .i64 0, .bool false, .int .u32 0, .int .i64 0, .int .i64 0, .int .i64 0] [], []⟩,
 ⟨none, none, .store 6, [.t 2, .t 13]⟩,
 ⟨some 3, none, .mov, [.c (.int .i64 3)]⟩])
 .ret)
 .skip))
 (.seq (.reg []
 [⟨some 14, none, .mov, [.t 0]⟩,
 ⟨some 15, none, .call 45, [.t 14]⟩,
 ⟨some 4, none, .mov, [.t 15]⟩])
 (.seq (.seq (.reg []
 [⟨some 16, none, .mov, [.t 4]⟩,
 ⟨some 17, none, .lenL, [.t 16]⟩,
 ⟨some 18, none, .bin .lss .scal, [.t 17, .c (.int .i64 3)]⟩,
 ⟨some 19, none, .mov, [.t 18]⟩,
 ⟨some 20, some (19, false), .mov, [.t 4]⟩,
 ⟨some 21, some (19, false), .lenL, [.t 20]⟩,
 ⟨some 22, some (19, false), .bin .gtr .scal, [.t 21, .c (.int .i64 7)]⟩,
 ⟨some 23, none, .pick, [.t 19, .c (.bool true), .t 22]⟩,
 ⟨some 24, none, .mov, [.t 23]⟩,
 ⟨some 25, some (24, false), .mov, [.t 4]⟩,
 ⟨some 26, some (24, false), .lenL, [.t 25]⟩,
 ⟨some 27, some (24, false), .bin .rem .scal, [.t 26, .c (.int .i64 2)]⟩,
 ⟨some 28, some (24, false), .bin .eql .scal, [.t 27, .c (.int .i64 0)]⟩,
 ⟨some 29, none, .pick, [.t 24, .c (.bool true), .t 28]⟩,
 ⟨some 30, none, .mov, [.t 29]⟩,
 ⟨some 31, some (30, false), .mov, [.t 4]⟩,
 ⟨some 32, some (30, false), .idxA 1, [.t 31, .c (.int .i64 0)]⟩,
 ⟨some 33, some (30, false), .load none, [.t 32]⟩,
 ⟨some 34, some (30, false), .call 46, [.t 33]⟩,
 ⟨some 35, some (30, false), .bin .eql .scal, [.t 34, .c (.int .i64 0)]⟩,
 ⟨some 36, none, .pick, [.t 30, .c (.bool true), .t 35]⟩,
 ⟨some 37, none, .mov, [.t 36]⟩,
 ⟨some 38, some (37, false), .mov, [.t 4]⟩,
 ⟨some 39, some (37, false), .idxA 1, [.t 38, .c (.int .i64 1)]⟩,
 ⟨some 40, some (37, false), .load none, [.t 39]⟩,
 ⟨some 41, some (37, false), .bin .neq .scal, [.t 40, .c (.str (bstr [112, 101, 114, 109, 105, 116]))]⟩,
 ⟨some 42, some (37, false), .mov, [.t 41]⟩,
 ⟨some 43, some (42, true), .mov, [.t 4]⟩,
 ⟨some 44, some (42, true), .idxA 1, [.t 43, .c (.int .i64 1)]⟩,
 ⟨some 45, some (42, true), .load none, [.t 44]⟩,
 ⟨some 46, some (42, true), .bin .neq .scal, [.t 45, .c (.str (bstr [100, 101, 110, 121]))]⟩,
 ⟨some 47, some (37, false), .pick, [.t 42, .t 46, .c (.bool false)]⟩,
 ⟨some 48, none, .pick, [.t 37, .c (.bool true), .t 47]⟩])
 (.cond (.t 48)
 (.seq (.reg []
 [⟨some 49, none, .build [.int .i64 0, .bool false, .int .u32 0, .int .i64 0, .int .i64 0, .int .i64 0] [], []⟩,
 ⟨none, none, .store 6, [.t 2, .t 49]⟩,
 ⟨some 3, none, .mov, [.c (.int .i64 3)]⟩])
 .ret)
 .skip))
 (.seq (.reg [[], [0], [1], [2], [], [4], [5], [6], [3, 7], [], [9, 8, 3, 0, 1, 2, 3, 4, 5, 6, 7, 8, 9]]
 [⟨some 50, none, .mov, [.t 4]⟩,
 ⟨some 51, none, .idxA 1, [.t 50, .c (.int .i64 0)]⟩,
 ⟨some 52, none, .load none, [.t 51]⟩,
 ⟨some 53, none, .call 46, [.t 52]⟩,
 ⟨some 54, none, .mov, [.t 4]⟩,
 ⟨some 55, none, .idxA 1, [.t 54, .c (.int .i64 1)]⟩,
 ⟨some 56, none, .load none, [.t 55]⟩,
 ⟨some 57, none, .bin .eql .scal, [.t 56, .c (.str (bstr [112, 101, 114, 109, 105, 116]))]⟩,
 ⟨some 58, none, .build [.int .i64 0, .bool false, .int .u32 0, .int .i64 0, .int .i64 0, .int .i64 0] [(0, 1), (1, 1)], [.t 53, .t 57]⟩,
 ⟨some 5, none, .alloc [.int .i64 0, .bool false, .int .u32 0, .int .i64 0, .int .i64 0, .int .i64 0], []⟩,
 ⟨none, none, .store 6, [.t 5, .t 58]⟩])
 (.seq (.reg []
 [⟨some 60, none, .mov, [.t 4]⟩,
 ⟨some 61, none, .idxA 1, [.t 60, .c (.int .i64 2)]⟩,
 ⟨some 62, none, .load none, [.t 61]⟩,
 ⟨some 63, none, .call 47, [.t 62]⟩,
 ⟨some 59, none, .mov, [.t 63]⟩,
 ⟨some 64, none, .ext 0, [.t 59]⟩,
 ⟨some 65, none, .ext 1, [.t 59]⟩,
 ⟨some 6, none, .alloc [.int .u32 0, .int .i64 0], []⟩,
 ⟨none, none, .store 2, [.t 6, .t 64]⟩,
 ⟨some 7, none, .mov, [.t 65]⟩])
 (.seq (.seq (.reg []
 [⟨some 66, none, .mov, [.t 7]⟩,
 ⟨some 67, none, .bin .eql .scal, [.t 66, .c (.int .i64 3)]⟩])
 (.cond (.t 67)
 (.seq (.reg []
 [⟨some 68, none, .build [.int .i64 0, .bool false, .int .u32 0, .int .i64 0, .int .i64 0, .int .i64 0] [], []⟩,
 ⟨none, none, .store 6, [.t 2, .t 68]⟩,
 ⟨some 3, none, .mov, [.c (.int .i64 3)]⟩])
 .ret)
 .skip))
 (.seq (.reg []
 [⟨some 69, none, .load (some 2), [.t 6]⟩,
 ⟨some 70, none, .fldA 2, [.t 5]⟩,
 ⟨none, none, .store 2, [.t 70, .t 69]⟩])
 (.seq (.seq (.reg []
 [⟨some 8, none, .mov, [.c (.int .i64 3)]⟩])
 (.block 0 (.loop ac17_1)))
 (.seq (.seq (.reg []
 [⟨some 112, none, .mov, [.t 7]⟩,
 ⟨some 113, none, .bin .neq .scal, [.t 112, .c (.int .i64 0)]⟩,
 ⟨some 114, none, .mov, [.t 113]⟩,
 ⟨some 115, some (114, false), .load (some 6), [.t 5]⟩,
 ⟨some 116, some (114, false), .call 12, [.t 115]⟩,
 ⟨some 117, some (114, false), .unNot, [.t 116]⟩,
 ⟨some 118, none, .pick, [.t 114, .c (.bool true), .t 117]⟩])
 (.cond (.t 118)
 (.seq (.reg []
 [⟨some 119, none, .build [.int .i64 0, .bool false, .int .u32 0, .int .i64 0, .int .i64 0, .int .i64 0] [], []⟩,
 ⟨none, none, .store 6, [.t 2, .t 119]⟩,
 ⟨some 3, none, .mov, [.c (.int .i64 1)]⟩])
 .ret)
 .skip))
 (.seq (.reg []
 [⟨some 120, none, .load (some 6), [.t 5]⟩,
 ⟨none, none, .store 6, [.t 2, .t 120]⟩,
 ⟨some 3, none, .mov, [.c (.int .i64 0)]⟩])
 .ret))))))))))
theorem i17 : fnInfo Tryz.prog 17 = some (121, [.c 2 (some 6), .t 3], ac17) := by kernel_rfl
/-- "crossroads/plist.number": 28 temporaries, 1 parameters, results some [.t 2]. -/
def ac31 : AC :=
 .seq (.reg []
 [⟨some 2, none, .mov, [.c (.int .i64 0)]⟩])
 (.seq (.seq (.reg []
 [⟨some 5, none, .mov, [.t 0]⟩,
 ⟨some 6, none, .bin .eql .scal, [.t 5, .c (.str (bstr []))]⟩,
 ⟨some 7, none, .mov, [.t 6]⟩,
 ⟨some 8, some (7, false), .mov, [.t 0]⟩,
 ⟨some 9, some (7, false), .lenS, [.t 8]⟩,
 ⟨some 10, some (7, false), .bin .gtr .scal, [.t 9, .c (.int .i64 5)]⟩,
 ⟨some 11, none, .pick, [.t 7, .c (.bool true), .t 10]⟩,
 ⟨some 12, none, .mov, [.t 11]⟩,
 ⟨some 13, some (12, false), .mov, [.t 0]⟩,
 ⟨some 14, some (12, false), .idxS, [.t 13, .c (.int .i64 0)]⟩,
 ⟨some 15, some (12, false), .bin .eql .scal, [.t 14, .c (.int .u8 48)]⟩,
 ⟨some 16, none, .pick, [.t 12, .c (.bool true), .t 15]⟩,
 ⟨some 17, none, .mov, [.t 16]⟩,
 ⟨some 18, some (17, false), .mov, [.t 0]⟩,
 ⟨some 19, some (17, false), .call 59, [.t 18, .c (.str (bstr [48, 49, 50, 51, 52, 53, 54, 55, 56, 57]))]⟩,
 ⟨some 20, some (17, false), .bin .neq .scal, [.t 19, .c (.str (bstr []))]⟩,
 ⟨some 21, none, .pick, [.t 17, .c (.bool true), .t 20]⟩])
 (.cond (.t 21)
 (.seq (.reg []
 [⟨some 2, none, .mov, [.c (.int .i64 0)]⟩])
 .ret)
 .skip))
 (.seq (.reg []
 [⟨some 23, none, .mov, [.t 0]⟩,
 ⟨some 24, none, .call 60, [.t 23]⟩,
 ⟨some 22, none, .mov, [.t 24]⟩,
 ⟨some 25, none, .ext 0, [.t 22]⟩,
 ⟨some 26, none, .ext 1, [.t 22]⟩,
 ⟨some 3, none, .mov, [.t 25]⟩,
 ⟨some 4, none, .mov, [.t 26]⟩])
 (.seq (.reg []
 [⟨some 27, none, .mov, [.t 3]⟩,
 ⟨some 2, none, .mov, [.t 27]⟩])
 .ret)))
theorem i31 : fnInfo Tryz.prog 31 = some (28, [.t 2], ac31) := by kernel_rfl
def ac32_1 : AC :=
 .seq (.reg []
 [⟨some 45, none, .bin .lss .scal, [.t 44, .t 43]⟩])
 (.seq (.cond (.t 45)
 .skip
 (.exit 0))
 (.seq (.block 1 (.seq (.reg []
 [⟨some 46, none, .idxA 1, [.t 42, .t 44]⟩,
 ⟨some 47, none, .load none, [.t 46]⟩,
 ⟨some 12, none, .mov, [.t 47]⟩])
 (.seq (.reg []
 [⟨some 49, none, .mov, [.t 12]⟩,
 ⟨some 50, none, .call 62, [.t 49, .c (.int .i64 255)]⟩,
 ⟨some 48, none, .mov, [.t 50]⟩,
 ⟨some 51, none, .ext 0, [.t 48]⟩,
 ⟨some 52, none, .ext 1, [.t 48]⟩,
 ⟨some 13, none, .mov, [.t 51]⟩,
 ⟨some 14, none, .mov, [.t 52]⟩])
 (.seq (.seq (.reg []
 [⟨some 53, none, .mov, [.t 14]⟩,
 ⟨some 54, none, .unNot, [.t 53]⟩])
 (.cond (.t 54)
 (.seq (.reg []
 [⟨some 55, none, .build [.int .u32 0, .int .i64 0] [], []⟩,
 ⟨none, none, .store 2, [.t 2, .t 55]⟩,
 ⟨some 3, none, .mov, [.c (.int .i64 3)]⟩])
 .ret)
 .skip))
 (.reg []
 [⟨some 56, none, .fldA 0, [.t 10]⟩,
 ⟨some 57, none, .load none, [.t 56]⟩,
 ⟨some 58, none, .bin .shl .scal, [.t 57, .c (.int .u64 8)]⟩,
 ⟨some 59, none, .mov, [.t 13]⟩,
 ⟨some 60, none, .conv .u32, [.t 59]⟩,
 ⟨some 61, none, .bin .or .scal, [.t 58, .t 60]⟩,
 ⟨some 62, none, .fldA 0, [.t 10]⟩,
 ⟨none, none, .store 1, [.t 62, .t 61]⟩])))))
 (.reg []
 [⟨some 63, none, .bin .add .scal, [.t 44, .c (.int .i64 1)]⟩,
 ⟨some 44, none, .mov, [.t 63]⟩])))
/-- "crossroads/addr.Parse": 69 temporaries, 1 parameters, results some [.c 2 (some 2), .t 3]. -/
def ac32 : AC :=
 .seq (.reg []
 [⟨some 2, none, .alloc [.int .u32 0, .int .i64 0], []⟩,
 ⟨some 3, none, .mov, [.c (.int .i64 0)]⟩])
 (.seq (.reg []
 [⟨some 16, none, .mov, [.t 0]⟩,
 ⟨some 17, none, .call 61, [.t 16, .c (.str (bstr [47]))]⟩,
 ⟨some 15, none, .mov, [.t 17]⟩,
 ⟨some 18, none, .ext 0, [.t 15]⟩,
 ⟨some 19, none, .ext 1, [.t 15]⟩,
 ⟨some 20, none, .ext 2, [.t 15]⟩,
 ⟨some 4, none, .mov, [.t 18]⟩,
 ⟨some 5, none, .mov, [.t 19]⟩,
 ⟨some 6, none, .mov, [.t 20]⟩])
 (.seq (.reg []
 [⟨some 21, none, .mov, [.t 4]⟩,
 ⟨some 22, none, .call 30, [.t 21, .c (.str (bstr [46]))]⟩,
 ⟨some 7, none, .mov, [.t 22]⟩])
 (.seq (.reg []
 [⟨some 24, none, .mov, [.t 5]⟩,
 ⟨some 25, none, .call 62, [.t 24, .c (.int .i64 32)]⟩,
 ⟨some 23, none, .mov, [.t 25]⟩,
 ⟨some 26, none, .ext 0, [.t 23]⟩,
 ⟨some 27, none, .ext 1, [.t 23]⟩,
 ⟨some 8, none, .mov, [.t 26]⟩,
 ⟨some 9, none, .mov, [.t 27]⟩])
 (.seq (.seq (.reg []
 [⟨some 28, none, .mov, [.t 6]⟩,
 ⟨some 29, none, .unNot, [.t 28]⟩,
 ⟨some 30, none, .mov, [.t 29]⟩,
 ⟨some 31, some (30, false), .mov, [.t 9]⟩,
 ⟨some 32, some (30, false), .unNot, [.t 31]⟩,
 ⟨some 33, none, .pick, [.t 30, .c (.bool true), .t 32]⟩,
 ⟨some 34, none, .mov, [.t 33]⟩,
 ⟨some 35, some (34, false), .mov, [.t 7]⟩,
 ⟨some 36, some (34, false), .lenL, [.t 35]⟩,
 ⟨some 37, some (34, false), .bin .neq .scal, [.t 36, .c (.int .i64 4)]⟩,
 ⟨some 38, none, .pick, [.t 34, .c (.bool true), .t 37]⟩])
 (.cond (.t 38)
 (.seq (.reg []
 [⟨some 39, none, .build [.int .u32 0, .int .i64 0] [], []⟩,
 ⟨none, none, .store 2, [.t 2, .t 39]⟩,
 ⟨some 3, none, .mov, [.c (.int .i64 3)]⟩])
 .ret)
 .skip))
 (.seq (.reg []
 [⟨some 40, none, .mov, [.t 8]⟩,
 ⟨some 41, none, .build [.int .u32 0, .int .i64 0] [(1, 1)], [.t 40]⟩,
 ⟨some 10, none, .alloc [.int .u32 0, .int .i64 0], []⟩,
 ⟨none, none, .store 2, [.t 10, .t 41]⟩])
 (.seq (.seq (.reg []
 [⟨some 42, none, .mov, [.t 7]⟩,
 ⟨some 43, none, .lenL, [.t 42]⟩,
 ⟨some 44, none, .mov, [.c (.int .i64 0)]⟩])
 (.block 0 (.loop ac32_1)))
 (.seq (.seq (.reg []
 [⟨some 64, none, .load (some 2), [.t 10]⟩,
 ⟨some 65, none, .call 37, [.t 64]⟩,
 ⟨some 66, none, .unNot, [.t 65]⟩])
 (.cond (.t 66)
 (.seq (.reg []
 [⟨some 67, none, .build [.int .u32 0, .int .i64 0] [], []⟩,
 ⟨none, none, .store 2, [.t 2, .t 67]⟩,
 ⟨some 3, none, .mov, [.c (.int .i64 1)]⟩])
 .ret)
 .skip))
 (.seq (.reg []
 [⟨some 68, none, .load (some 2), [.t 10]⟩,
 ⟨none, none, .store 2, [.t 2, .t 68]⟩,
 ⟨some 3, none, .mov, [.c (.int .i64 0)]⟩])
 .ret))))))))
theorem i32 : fnInfo Tryz.prog 32 = some (69, [.c 2 (some 2), .t 3], ac32) := by kernel_rfl
def ac33_1 : AC :=
 .seq (.reg []
 [⟨some 19, none, .bin .lss .scal, [.t 18, .t 17]⟩])
 (.seq (.cond (.t 19)
 .skip
 (.exit 0))
 (.seq (.block 1 (.seq (.reg []
 [⟨some 20, none, .idxA 2, [.t 16, .t 18]⟩,
 ⟨some 21, none, .load (some 2), [.t 20]⟩,
 ⟨some 6, none, .alloc [.str (bstr []), .nilp], []⟩,
 ⟨none, none, .store 2, [.t 6, .t 21]⟩])
 (.seq (.seq (.reg [[], [0], [1], [2], [3], [4, 3], [5, 3], [3], [7, 3], [6, 8, 3], [3, 9]]
 [⟨some 22, none, .mov, [.t 1]⟩,
 ⟨some 23, none, .lenL, [.t 22]⟩,
 ⟨some 24, none, .bin .lss .scal, [.t 23, .c (.int .i64 2)]⟩,
 ⟨some 25, none, .mov, [.t 24]⟩,
 ⟨some 26, some (25, false), .mov, [.t 1]⟩,
 ⟨some 27, some (25, false), .idxA 1, [.t 26, .c (.int .i64 0)]⟩,
 ⟨some 28, some (25, false), .load none, [.t 27]⟩,
 ⟨some 29, some (25, false), .fldA 0, [.t 6]⟩,
 ⟨some 30, some (25, false), .load none, [.t 29]⟩,
 ⟨some 31, some (25, false), .bin .neq .scal, [.t 28, .t 30]⟩,
 ⟨some 32, none, .pick, [.t 25, .c (.bool true), .t 31]⟩])
 (.cond (.t 32)
 (.exit 1)
 .skip))
 (.seq (.reg []
 [⟨some 33, none, .mov, [.t 1]⟩,
 ⟨some 34, none, .idxA 1, [.t 33, .c (.int .i64 1)]⟩,
 ⟨some 35, none, .load none, [.t 34]⟩,
 ⟨some 36, none, .call 31, [.t 35]⟩,
 ⟨some 7, none, .mov, [.t 36]⟩])
 (.seq (.seq (.reg []
 [⟨some 37, none, .mov, [.t 7]⟩,
 ⟨some 38, none, .bin .eql .scal, [.t 37, .c (.int .i64 0)]⟩])
 (.cond (.t 38)
 (.seq (.reg []
 [⟨some 4, none, .mov, [.c (.bool false)]⟩])
 .ret)
 .skip))
 (.seq (.reg []
 [⟨some 39, none, .fldA 1, [.t 6]⟩,
 ⟨some 40, none, .load none, [.t 39]⟩,
 ⟨some 41, none, .mov, [.t 7]⟩,
 ⟨some 42, none, .nilchk, [.t 40]⟩,
 ⟨none, none, .store 1, [.t 42, .t 41]⟩])
 (.reg []
 [⟨some 43, none, .mov, [.t 1]⟩,
 ⟨some 44, none, .slice 1 true false, [.t 43, .c (.int .i64 2)]⟩,
 ⟨some 1, none, .mov, [.t 44]⟩])))))))
 (.reg []
 [⟨some 45, none, .bin .add .scal, [.t 18, .c (.int .i64 1)]⟩,
 ⟨some 18, none, .mov, [.t 45]⟩])))
/-- "(*crossroads/plist.Rule).limits": 49 temporaries, 2 parameters, results some [.t 4]. -/
def ac33 : AC :=
 .seq (.reg []
 [⟨some 4, none, .mov, [.c (.bool false)]⟩])
 (.seq (.seq (.reg [[], [0], [1], [2], [], [4], [5], [6], [3, 7], [8], []]
 [⟨some 8, none, .mov, [.t 0]⟩,
 ⟨some 9, none, .nilchk, [.t 8]⟩,
 ⟨some 10, none, .fldA 4, [.t 9]⟩,
 ⟨some 11, none, .build [.str (bstr []), .nilp] [(0, 1), (1, 1)], [.c (.str (bstr [103, 101])), .t 10]⟩,
 ⟨some 12, none, .mov, [.t 0]⟩,
 ⟨some 13, none, .nilchk, [.t 12]⟩,
 ⟨some 14, none, .fldA 5, [.t 13]⟩,
 ⟨some 15, none, .build [.str (bstr []), .nilp] [(0, 1), (1, 1)], [.c (.str (bstr [108, 101])), .t 14]⟩,
 ⟨some 16, none, .bslice 2 96, [.t 11, .t 15]⟩,
 ⟨some 17, none, .lenL, [.t 16]⟩,
 ⟨some 18, none, .mov, [.c (.int .i64 0)]⟩])
 (.block 0 (.loop ac33_1)))
 (.seq (.reg []
 [⟨some 46, none, .mov, [.t 1]⟩,
 ⟨some 47, none, .lenL, [.t 46]⟩,
 ⟨some 48, none, .bin .eql .scal, [.t 47, .c (.int .i64 0)]⟩,
 ⟨some 4, none, .mov, [.t 48]⟩])
 .ret))
theorem i33 : fnInfo Tryz.prog 33 = some (49, [.t 4], ac33) := by kernel_rfl
def ac35_1 : AC :=
 .seq (.seq (.reg []
 [⟨some 5, none, .mov, [.t 4]⟩,
 ⟨some 6, none, .bin .geq .scal, [.t 5, .c (.int .i64 0)]⟩])
 (.cond (.t 6)
 .skip
 (.exit 0)))
 (.seq (.block 1 (.reg []
 [⟨some 9, none, .mov, [.t 3]⟩,
 ⟨some 10, none, .fldA 0, [.t 1]⟩,
 ⟨some 11, none, .load none, [.t 10]⟩,
 ⟨some 12, none, .mov, [.t 4]⟩,
 ⟨some 13, none, .bin .shr .scal, [.t 11, .t 12]⟩,
 ⟨some 14, none, .bin .and .scal, [.t 13, .c (.int .u32 255)]⟩,
 ⟨some 15, none, .conv .i64, [.t 14]⟩,
 ⟨some 16, none, .call 34, [.t 15]⟩,
 ⟨some 17, none, .bslice 1 9, [.t 16]⟩,
 ⟨some 18, none, .append 1 9 16, [.t 9, .t 17]⟩,
 ⟨some 3, none, .mov, [.t 18]⟩]))
 (.reg []
 [⟨some 7, none, .mov, [.t 4]⟩,
 ⟨some 8, none, .bin .sub .scal, [.t 7, .c (.int .i64 8)]⟩,
 ⟨some 4, none, .mov, [.t 8]⟩]))
/-- "crossroads/addr.Text": 26 temporaries, 1 parameters, results some [.t 2]. -/
def ac35 : AC :=
 .seq (.reg []
 [⟨some 1, none, .box, [.t 0]⟩,
 ⟨some 2, none, .mov, [.c (.str (bstr []))]⟩])
 (.seq (.reg []
 [⟨some 3, none, .mov, [.c .nils]⟩])
 (.seq (.seq (.reg []
 [⟨some 4, none, .mov, [.c (.int .i64 24)]⟩])
 (.block 0 (.loop ac35_1)))
 (.seq (.reg [[], [0], [1], [], [3], [4, 1], [2, 5], [6, 5, 0, 1, 2, 3, 4, 5, 6]]
 [⟨some 19, none, .mov, [.t 3]⟩,
 ⟨some 20, none, .call 36, [.t 19, .c (.str (bstr [46]))]⟩,
 ⟨some 21, none, .bin .add .scal, [.t 20, .c (.str (bstr [47]))]⟩,
 ⟨some 22, none, .fldA 1, [.t 1]⟩,
 ⟨some 23, none, .load none, [.t 22]⟩,
 ⟨some 24, none, .call 34, [.t 23]⟩,
 ⟨some 25, none, .bin .add .scal, [.t 21, .t 24]⟩,
 ⟨some 2, none, .mov, [.t 25]⟩])
 .ret)))
theorem i35 : fnInfo Tryz.prog 35 = some (26, [.t 2], ac35) := by kernel_rfl
/-- "crossroads/addr.May": 15 temporaries, 1 parameters, results some [.t 2]. -/
def ac37 : AC :=
 .seq (.reg []
 [⟨some 1, none, .box, [.t 0]⟩,
 ⟨some 2, none, .mov, [.c (.bool false)]⟩])
 (.seq (.reg [[], [0], [1], [2, 2], [3], [4, 3], [3], [6, 3], [7, 3, 3], [5, 8, 3], [9, 3], [3, 10], [11, 8, 0, 1, 2, 3, 4, 5, 6, 7, 8, 9, 10, 11]]
 [⟨some 3, none, .fldA 1, [.t 1]⟩,
 ⟨some 4, none, .load none, [.t 3]⟩,
 ⟨some 5, none, .call 67, [.t 4]⟩,
 ⟨some 6, none, .mov, [.t 5]⟩,
 ⟨some 7, some (6, true), .fldA 0, [.t 1]⟩,
 ⟨some 8, some (6, true), .load none, [.t 7]⟩,
 ⟨some 9, some (6, true), .fldA 1, [.t 1]⟩,
 ⟨some 10, some (6, true), .load none, [.t 9]⟩,
 ⟨some 11, some (6, true), .call 68, [.t 10]⟩,
 ⟨some 12, some (6, true), .bin .andNot .scal, [.t 8, .t 11]⟩,
 ⟨some 13, some (6, true), .bin .eql .scal, [.t 12, .c (.int .u32 0)]⟩,
 ⟨some 14, none, .pick, [.t 6, .t 13, .c (.bool false)]⟩,
 ⟨some 2, none, .mov, [.t 14]⟩])
 .ret)
theorem i37 : fnInfo Tryz.prog 37 = some (15, [.t 2], ac37) := by kernel_rfl
def ac38_1 : AC :=
 .seq (.seq (.reg []
 [⟨some 14, none, .mov, [.t 3]⟩,
 ⟨some 15, none, .bin .lss .scal, [.t 14, .c (.int .i64 32)]⟩])
 (.cond (.t 15)
 .skip
 (.exit 0)))
 (.seq (.block 1 (.seq (.reg []
 [⟨some 18, none, .fldA 0, [.t 1]⟩,
 ⟨some 19, none, .load none, [.t 18]⟩,
 ⟨some 20, none, .mov, [.t 3]⟩,
 ⟨some 21, none, .call 69, [.t 19, .t 20]⟩,
 ⟨some 22, none, .bin .eql .scal, [.t 21, .c (.int .i64 1)]⟩])
 (.cond (.t 22)
 (.seq (.reg []
 [⟨some 2, none, .mov, [.c (.bool false)]⟩])
 .ret)
 .skip)))
 (.reg []
 [⟨some 16, none, .mov, [.t 3]⟩,
 ⟨some 17, none, .bin .add .scal, [.t 16, .c (.int .i64 1)]⟩,
 ⟨some 3, none, .mov, [.t 17]⟩]))
/-- "crossroads/crossroadsref03.May": 23 temporaries, 1 parameters, results some [.t 2]. -/
def ac38 : AC :=
 .seq (.reg []
 [⟨some 1, none, .box, [.t 0]⟩,
 ⟨some 2, none, .mov, [.c (.bool false)]⟩])
 (.seq (.seq (.reg []
 [⟨some 4, none, .fldA 1, [.t 1]⟩,
 ⟨some 5, none, .load none, [.t 4]⟩,
 ⟨some 6, none, .bin .lss .scal, [.t 5, .c (.int .i64 0)]⟩,
 ⟨some 7, none, .mov, [.t 6]⟩,
 ⟨some 8, some (7, false), .fldA 1, [.t 1]⟩,
 ⟨some 9, some (7, false), .load none, [.t 8]⟩,
 ⟨some 10, some (7, false), .bin .gtr .scal, [.t 9, .c (.int .i64 32)]⟩,
 ⟨some 11, none, .pick, [.t 7, .c (.bool true), .t 10]⟩])
 (.cond (.t 11)
 (.seq (.reg []
 [⟨some 2, none, .mov, [.c (.bool false)]⟩])
 .ret)
 .skip))
 (.seq (.seq (.reg []
 [⟨some 12, none, .fldA 1, [.t 1]⟩,
 ⟨some 13, none, .load none, [.t 12]⟩,
 ⟨some 3, none, .mov, [.t 13]⟩])
 (.block 0 (.loop ac38_1)))
 (.seq (.reg []
 [⟨some 2, none, .mov, [.c (.bool true)]⟩])
 .ret)))
theorem i38 : fnInfo Tryz.prog 38 = some (23, [.t 2], ac38) := by kernel_rfl
/-- "(crossroads/plist.Rule).bounds": 38 temporaries, 1 parameters, results some [.t 2, .t 3]. -/
def ac39 : AC :=
 .seq (.reg []
 [⟨some 1, none, .box, [.t 0]⟩,
 ⟨some 2, none, .mov, [.c (.int .i64 0)]⟩,
 ⟨some 3, none, .mov, [.c (.int .i64 0)]⟩])
 (.seq (.block 0 (.seq (.reg []
 [⟨some 5, none, .fldA 4, [.t 1]⟩,
 ⟨some 6, none, .load none, [.t 5]⟩,
 ⟨some 7, none, .bin .eql .scal, [.t 6, .c (.int .i64 0)]⟩,
 ⟨some 8, none, .mov, [.t 7]⟩,
 ⟨some 9, some (8, true), .fldA 5, [.t 1]⟩,
 ⟨some 10, some (8, true), .load none, [.t 9]⟩,
 ⟨some 11, some (8, true), .bin .eql .scal, [.t 10, .c (.int .i64 0)]⟩,
 ⟨some 12, none, .pick, [.t 8, .t 11, .c (.bool false)]⟩,
 ⟨some 4, none, .mov, [.t 12]⟩])
 (.cond (.t 4)
 (.seq (.reg [[], [0], [1], [], [3], [4], [2, 0, 1, 2], [5, 6, 0, 1, 2, 3, 4, 5, 6]]
 [⟨some 13, none, .fldA 2, [.t 1]⟩,
 ⟨some 14, none, .fldA 1, [.t 13]⟩,
 ⟨some 15, none, .load none, [.t 14]⟩,
 ⟨some 16, none, .fldA 2, [.t 1]⟩,
 ⟨some 17, none, .fldA 1, [.t 16]⟩,
 ⟨some 18, none, .load none, [.t 17]⟩,
 ⟨some 2, none, .mov, [.t 15]⟩,
 ⟨some 3, none, .mov, [.t 18]⟩])
 .ret)
 (.seq (.reg []
 [⟨some 20, none, .fldA 4, [.t 1]⟩,
 ⟨some 21, none, .load none, [.t 20]⟩,
 ⟨some 22, none, .bin .eql .scal, [.t 21, .c (.int .i64 0)]⟩,
 ⟨some 19, none, .mov, [.t 22]⟩])
 (.cond (.t 19)
 (.seq (.reg [[], [0], [1], [], [3], [2, 0, 1, 2], [4, 5, 0, 1, 2, 3, 4, 5]]
 [⟨some 23, none, .fldA 2, [.t 1]⟩,
 ⟨some 24, none, .fldA 1, [.t 23]⟩,
 ⟨some 25, none, .load none, [.t 24]⟩,
 ⟨some 26, none, .fldA 5, [.t 1]⟩,
 ⟨some 27, none, .load none, [.t 26]⟩,
 ⟨some 2, none, .mov, [.t 25]⟩,
 ⟨some 3, none, .mov, [.t 27]⟩])
 .ret)
 (.seq (.reg []
 [⟨some 29, none, .fldA 5, [.t 1]⟩,
 ⟨some 30, none, .load none, [.t 29]⟩,
 ⟨some 31, none, .bin .eql .scal, [.t 30, .c (.int .i64 0)]⟩,
 ⟨some 28, none, .mov, [.t 31]⟩])
 (.cond (.t 28)
 (.seq (.reg []
 [⟨some 32, none, .fldA 4, [.t 1]⟩,
 ⟨some 33, none, .load none, [.t 32]⟩,
 ⟨some 2, none, .mov, [.t 33]⟩,
 ⟨some 3, none, .mov, [.c (.int .i64 32)]⟩])
 .ret)
 .skip)))))))
 (.seq (.reg [[], [0], [], [2], [1, 0, 1], [3, 4, 0, 1, 2, 3, 4]]
 [⟨some 34, none, .fldA 4, [.t 1]⟩,
 ⟨some 35, none, .load none, [.t 34]⟩,
 ⟨some 36, none, .fldA 5, [.t 1]⟩,
 ⟨some 37, none, .load none, [.t 36]⟩,
 ⟨some 2, none, .mov, [.t 35]⟩,
 ⟨some 3, none, .mov, [.t 37]⟩])
 .ret))
theorem i39 : fnInfo Tryz.prog 39 = some (38, [.t 2, .t 3], ac39) := by kernel_rfl
/-- "crossroads/addr.Covers": 20 temporaries, 2 parameters, results some [.t 4]. -/
def ac40 : AC :=
 .seq (.reg []
 [⟨some 2, none, .box, [.t 0]⟩,
 ⟨some 3, none, .box, [.t 1]⟩,
 ⟨some 4, none, .mov, [.c (.bool false)]⟩])
 (.seq (.reg []
 [⟨some 5, none, .load (some 2), [.t 3]⟩,
 ⟨some 6, none, .call 37, [.t 5]⟩,
 ⟨some 7, none, .mov, [.t 6]⟩,
 ⟨some 8, some (7, true), .fldA 1, [.t 2]⟩,
 ⟨some 9, some (7, true), .load none, [.t 8]⟩,
 ⟨some 10, some (7, true), .fldA 1, [.t 3]⟩,
 ⟨some 11, some (7, true), .load none, [.t 10]⟩,
 ⟨some 12, some (7, true), .bin .leq .scal, [.t 9, .t 11]⟩,
 ⟨some 13, none, .pick, [.t 7, .t 12, .c (.bool false)]⟩,
 ⟨some 14, none, .mov, [.t 13]⟩,
 ⟨some 15, some (14, true), .load (some 2), [.t 2]⟩,
 ⟨some 16, some (14, true), .fldA 0, [.t 3]⟩,
 ⟨some 17, some (14, true), .load none, [.t 16]⟩,
 ⟨some 18, some (14, true), .call 70, [.t 15, .t 17]⟩,
 ⟨some 19, none, .pick, [.t 14, .t 18, .c (.bool false)]⟩,
 ⟨some 4, none, .mov, [.t 19]⟩])
 .ret)
theorem i40 : fnInfo Tryz.prog 40 = some (20, [.t 4], ac40) := by kernel_rfl
def ac45_1 : AC :=
 .seq (.seq (.reg []
 [⟨some 6, none, .mov, [.t 4]⟩,
 ⟨some 7, none, .mov, [.t 0]⟩,
 ⟨some 8, none, .lenS, [.t 7]⟩,
 ⟨some 9, none, .bin .lss .scal, [.t 6, .t 8]⟩])
 (.cond (.t 9)
 .skip
 (.exit 0)))
 (.seq (.block 1 (.seq (.reg []
 [⟨some 12, none, .mov, [.t 0]⟩,
 ⟨some 13, none, .mov, [.t 4]⟩,
 ⟨some 14, none, .idxS, [.t 12, .t 13]⟩,
 ⟨some 15, none, .bin .eql .scal, [.t 14, .c (.int .u8 32)]⟩])
 (.cond (.t 15)
 (.reg []
 [⟨some 16, none, .mov, [.t 3]⟩,
 ⟨some 17, none, .bslice 1 9, [.c (.str (bstr []))]⟩,
 ⟨some 18, none, .append 1 9 16, [.t 16, .t 17]⟩,
 ⟨some 3, none, .mov, [.t 18]⟩])
 (.reg [[], [], [1], [2], [], [], [5], [6], [4, 7], [8], [], [], [], [12], [10, 11, 13], [9, 14], [0, 3, 0, 1, 2, 3, 4, 5, 6, 7, 8, 9, 10, 11, 12, 13, 14, 15], [16, 15, 0, 1, 2, 3, 4, 5, 6, 7, 8, 9, 10, 11, 12, 13, 14, 15]]
 [⟨some 19, none, .mov, [.t 3]⟩,
 ⟨some 20, none, .mov, [.t 3]⟩,
 ⟨some 21, none, .lenL, [.t 20]⟩,
 ⟨some 22, none, .bin .sub .scal, [.t 21, .c (.int .i64 1)]⟩,
 ⟨some 23, none, .mov, [.t 3]⟩,
 ⟨some 24, none, .mov, [.t 3]⟩,
 ⟨some 25, none, .lenL, [.t 24]⟩,
 ⟨some 26, none, .bin .sub .scal, [.t 25, .c (.int .i64 1)]⟩,
 ⟨some 27, none, .idxA 1, [.t 23, .t 26]⟩,
 ⟨some 28, none, .load none, [.t 27]⟩,
 ⟨some 29, none, .mov, [.t 0]⟩,
 ⟨some 30, none, .mov, [.t 4]⟩,
 ⟨some 31, none, .mov, [.t 4]⟩,
 ⟨some 32, none, .bin .add .scal, [.t 31, .c (.int .i64 1)]⟩,
 ⟨some 33, none, .sliceS true true, [.t 29, .t 30, .t 32]⟩,
 ⟨some 34, none, .bin .add .scal, [.t 28, .t 33]⟩,
 ⟨some 35, none, .idxA 1, [.t 19, .t 22]⟩,
 ⟨none, none, .store 1, [.t 35, .t 34]⟩]))))
 (.reg []
 [⟨some 10, none, .mov, [.t 4]⟩,
 ⟨some 11, none, .bin .add .scal, [.t 10, .c (.int .i64 1)]⟩,
 ⟨some 4, none, .mov, [.t 11]⟩]))
/-- "crossroads/crossroadsref07.Words": 37 temporaries, 1 parameters, results some [.t 2]. -/
def ac45 : AC :=
 .seq (.reg []
 [⟨some 2, none, .mov, [.c .nils]⟩])
 (.seq (.reg []
 [⟨some 5, none, .bslice 1 9, [.c (.str (bstr []))]⟩,
 ⟨some 3, none, .mov, [.t 5]⟩])
 (.seq (.seq (.reg []
 [⟨some 4, none, .mov, [.c (.int .i64 0)]⟩])
 (.block 0 (.loop ac45_1)))
 (.seq (.reg []
 [⟨some 36, none, .mov, [.t 3]⟩,
 ⟨some 2, none, .mov, [.t 36]⟩])
 .ret)))
theorem i45 : fnInfo Tryz.prog 45 = some (37, [.t 2], ac45) := by kernel_rfl
def ac46_1 : AC :=
 .seq (.seq (.reg []
 [⟨some 5, none, .mov, [.t 4]⟩,
 ⟨some 6, none, .mov, [.t 0]⟩,
 ⟨some 7, none, .lenS, [.t 6]⟩,
 ⟨some 8, none, .bin .lss .scal, [.t 5, .t 7]⟩])
 (.cond (.t 8)
 .skip
 (.exit 0)))
 (.seq (.block 1 (.seq (.seq (.reg []
 [⟨some 11, none, .mov, [.t 0]⟩,
 ⟨some 12, none, .mov, [.t 4]⟩,
 ⟨some 13, none, .idxS, [.t 11, .t 12]⟩,
 ⟨some 14, none, .bin .lss .scal, [.t 13, .c (.int .u8 48)]⟩,
 ⟨some 15, none, .mov, [.t 14]⟩,
 ⟨some 16, some (15, false), .mov, [.t 0]⟩,
 ⟨some 17, some (15, false), .mov, [.t 4]⟩,
 ⟨some 18, some (15, false), .idxS, [.t 16, .t 17]⟩,
 ⟨some 19, some (15, false), .bin .gtr .scal, [.t 18, .c (.int .u8 57)]⟩,
 ⟨some 20, none, .pick, [.t 15, .c (.bool true), .t 19]⟩,
 ⟨some 21, none, .mov, [.t 20]⟩,
 ⟨some 22, some (21, false), .mov, [.t 4]⟩,
 ⟨some 23, some (21, false), .bin .eql .scal, [.t 22, .c (.int .i64 0)]⟩,
 ⟨some 24, some (21, false), .mov, [.t 23]⟩,
 ⟨some 25, some (24, true), .mov, [.t 0]⟩,
 ⟨some 26, some (24, true), .mov, [.t 4]⟩,
 ⟨some 27, some (24, true), .idxS, [.t 25, .t 26]⟩,
 ⟨some 28, some (24, true), .bin .eql .scal, [.t 27, .c (.int .u8 48)]⟩,
 ⟨some 29, some (21, false), .pick, [.t 24, .t 28, .c (.bool false)]⟩,
 ⟨some 30, none, .pick, [.t 21, .c (.bool true), .t 29]⟩,
 ⟨some 31, none, .mov, [.t 30]⟩,
 ⟨some 32, some (31, false), .mov, [.t 4]⟩,
 ⟨some 33, some (31, false), .bin .gtr .scal, [.t 32, .c (.int .i64 4)]⟩,
 ⟨some 34, none, .pick, [.t 31, .c (.bool true), .t 33]⟩])
 (.cond (.t 34)
 (.seq (.reg []
 [⟨some 2, none, .mov, [.c (.int .i64 0)]⟩])
 .ret)
 .skip))
 (.reg []
 [⟨some 35, none, .mov, [.t 3]⟩,
 ⟨some 36, none, .bin .mul .scal, [.t 35, .c (.int .i64 10)]⟩,
 ⟨some 37, none, .mov, [.t 0]⟩,
 ⟨some 38, none, .mov, [.t 4]⟩,
 ⟨some 39, none, .idxS, [.t 37, .t 38]⟩,
 ⟨some 40, none, .bin .sub .scal, [.t 39, .c (.int .u8 48)]⟩,
 ⟨some 41, none, .conv .i64, [.t 40]⟩,
 ⟨some 42, none, .bin .add .scal, [.t 36, .t 41]⟩,
 ⟨some 3, none, .mov, [.t 42]⟩])))
 (.reg []
 [⟨some 9, none, .mov, [.t 4]⟩,
 ⟨some 10, none, .bin .add .scal, [.t 9, .c (.int .i64 1)]⟩,
 ⟨some 4, none, .mov, [.t 10]⟩]))
/-- "crossroads/crossroadsref07.Number": 44 temporaries, 1 parameters, results some [.t 2]. -/
def ac46 : AC :=
 .seq (.reg []
 [⟨some 2, none, .mov, [.c (.int .i64 0)]⟩])
 (.seq (.reg []
 [⟨some 3, none, .mov, [.c (.int .i64 0)]⟩])
 (.seq (.seq (.reg []
 [⟨some 4, none, .mov, [.c (.int .i64 0)]⟩])
 (.block 0 (.loop ac46_1)))
 (.seq (.reg []
 [⟨some 43, none, .mov, [.t 3]⟩,
 ⟨some 2, none, .mov, [.t 43]⟩])
 .ret)))
theorem i46 : fnInfo Tryz.prog 46 = some (44, [.t 2], ac46) := by kernel_rfl
def ac47_1 : AC :=
 .seq (.seq (.reg []
 [⟨some 12, none, .mov, [.t 5]⟩,
 ⟨some 13, none, .bin .lss .scal, [.t 12, .c (.int .i64 4)]⟩])
 (.cond (.t 13)
 .skip
 (.exit 0)))
 (.seq (.block 1 (.seq (.reg []
 [⟨some 17, none, .mov, [.t 0]⟩,
 ⟨some 18, none, .call 73, [.t 17, .c (.int .i64 255)]⟩,
 ⟨some 16, none, .mov, [.t 18]⟩,
 ⟨some 19, none, .ext 0, [.t 16]⟩,
 ⟨some 20, none, .ext 1, [.t 16]⟩,
 ⟨some 6, none, .mov, [.t 19]⟩,
 ⟨some 7, none, .mov, [.t 20]⟩])
 (.seq (.reg []
 [⟨some 8, none, .mov, [.c (.int .u8 46)]⟩])
 (.seq (.seq (.reg []
 [⟨some 21, none, .mov, [.t 5]⟩,
 ⟨some 22, none, .bin .eql .scal, [.t 21, .c (.int .i64 3)]⟩])
 (.cond (.t 22)
 (.reg []
 [⟨some 8, none, .mov, [.c (.int .u8 47)]⟩])
 .skip))
 (.seq (.seq (.reg []
 [⟨some 23, none, .mov, [.t 7]⟩,
 ⟨some 24, none, .bin .eql .scal, [.t 23, .c (.int .i64 0)]⟩,
 ⟨some 25, none, .mov, [.t 24]⟩,
 ⟨some 26, some (25, false), .mov, [.t 7]⟩,
 ⟨some 27, some (25, false), .mov, [.t 0]⟩,
 ⟨some 28, some (25, false), .lenS, [.t 27]⟩,
 ⟨some 29, some (25, false), .bin .geq .scal, [.t 26, .t 28]⟩,
 ⟨some 30, none, .pick, [.t 25, .c (.bool true), .t 29]⟩,
 ⟨some 31, none, .mov, [.t 30]⟩,
 ⟨some 32, some (31, false), .mov, [.t 0]⟩,
 ⟨some 33, some (31, false), .mov, [.t 7]⟩,
 ⟨some 34, some (31, false), .idxS, [.t 32, .t 33]⟩,
 ⟨some 35, some (31, false), .mov, [.t 8]⟩,
 ⟨some 36, some (31, false), .bin .neq .scal, [.t 34, .t 35]⟩,
 ⟨some 37, none, .pick, [.t 31, .c (.bool true), .t 36]⟩])
 (.cond (.t 37)
 (.seq (.reg []
 [⟨some 38, none, .build [.int .u32 0, .int .i64 0] [], []⟩,
 ⟨none, none, .store 2, [.t 2, .t 38]⟩,
 ⟨some 3, none, .mov, [.c (.int .i64 3)]⟩])
 .ret)
 .skip))
 (.seq (.reg []
 [⟨some 39, none, .mov, [.t 4]⟩,
 ⟨some 40, none, .bin .mul .scal, [.t 39, .c (.int .u32 256)]⟩,
 ⟨some 41, none, .mov, [.t 6]⟩,
 ⟨some 42, none, .conv .u32, [.t 41]⟩,
 ⟨some 43, none, .bin .add .scal, [.t 40, .t 42]⟩,
 ⟨some 4, none, .mov, [.t 43]⟩])
 (.reg []
 [⟨some 44, none, .mov, [.t 0]⟩,
 ⟨some 45, none, .mov, [.t 7]⟩,
 ⟨some 46, none, .bin .add .scal, [.t 45, .c (.int .i64 1)]⟩,
 ⟨some 47, none, .sliceS true false, [.t 44, .t 46]⟩,
 ⟨some 0, none, .mov, [.t 47]⟩])))))))
 (.reg []
 [⟨some 14, none, .mov, [.t 5]⟩,
 ⟨some 15, none, .bin .add .scal, [.t 14, .c (.int .i64 1)]⟩,
 ⟨some 5, none, .mov, [.t 15]⟩]))
/-- "crossroads/crossroadsref03.Parse": 70 temporaries, 1 parameters, results some [.c 2 (some 2), .t 3]. -/
def ac47 : AC :=
 .seq (.reg []
 [⟨some 2, none, .alloc [.int .u32 0, .int .i64 0], []⟩,
 ⟨some 3, none, .mov, [.c (.int .i64 0)]⟩])
 (.seq (.reg []
 [⟨some 4, none, .mov, [.c (.int .u32 0)]⟩])
 (.seq (.seq (.reg []
 [⟨some 5, none, .mov, [.c (.int .i64 0)]⟩])
 (.block 0 (.loop ac47_1)))
 (.seq (.reg []
 [⟨some 49, none, .mov, [.t 0]⟩,
 ⟨some 50, none, .call 73, [.t 49, .c (.int .i64 32)]⟩,
 ⟨some 48, none, .mov, [.t 50]⟩,
 ⟨some 51, none, .ext 0, [.t 48]⟩,
 ⟨some 52, none, .ext 1, [.t 48]⟩,
 ⟨some 9, none, .mov, [.t 51]⟩,
 ⟨some 10, none, .mov, [.t 52]⟩])
 (.seq (.seq (.reg []
 [⟨some 53, none, .mov, [.t 10]⟩,
 ⟨some 54, none, .bin .eql .scal, [.t 53, .c (.int .i64 0)]⟩,
 ⟨some 55, none, .mov, [.t 54]⟩,
 ⟨some 56, some (55, false), .mov, [.t 10]⟩,
 ⟨some 57, some (55, false), .mov, [.t 0]⟩,
 ⟨some 58, some (55, false), .lenS, [.t 57]⟩,
 ⟨some 59, some (55, false), .bin .neq .scal, [.t 56, .t 58]⟩,
 ⟨some 60, none, .pick, [.t 55, .c (.bool true), .t 59]⟩])
 (.cond (.t 60)
 (.seq (.reg []
 [⟨some 61, none, .build [.int .u32 0, .int .i64 0] [], []⟩,
 ⟨none, none, .store 2, [.t 2, .t 61]⟩,
 ⟨some 3, none, .mov, [.c (.int .i64 3)]⟩])
 .ret)
 .skip))
 (.seq (.reg []
 [⟨some 62, none, .mov, [.t 4]⟩,
 ⟨some 63, none, .mov, [.t 9]⟩,
 ⟨some 64, none, .build [.int .u32 0, .int .i64 0] [(0, 1), (1, 1)], [.t 62, .t 63]⟩,
 ⟨some 11, none, .alloc [.int .u32 0, .int .i64 0], []⟩,
 ⟨none, none, .store 2, [.t 11, .t 64]⟩])
 (.seq (.seq (.reg []
 [⟨some 65, none, .load (some 2), [.t 11]⟩,
 ⟨some 66, none, .call 38, [.t 65]⟩,
 ⟨some 67, none, .unNot, [.t 66]⟩])
 (.cond (.t 67)
 (.seq (.reg []
 [⟨some 68, none, .build [.int .u32 0, .int .i64 0] [], []⟩,
 ⟨none, none, .store 2, [.t 2, .t 68]⟩,
 ⟨some 3, none, .mov, [.c (.int .i64 1)]⟩])
 .ret)
 .skip))
 (.seq (.reg []
 [⟨some 69, none, .load (some 2), [.t 11]⟩,
 ⟨none, none, .store 2, [.t 2, .t 69]⟩,
 ⟨some 3, none, .mov, [.c (.int .i64 0)]⟩])
 .ret)))))))
theorem i47 : fnInfo Tryz.prog 47 = some (70, [.c 2 (some 2), .t 3], ac47) := by kernel_rfl
/-- "crossroads/addr.number": 40 temporaries, 2 parameters, results some [.t 4, .t 5]. -/
def ac62 : AC :=
 .seq (.reg []
 [⟨some 4, none, .mov, [.c (.int .i64 0)]⟩,
 ⟨some 5, none, .mov, [.c (.bool false)]⟩])
 (.seq (.reg []
 [⟨some 6, none, .mov, [.f 91]⟩])
 (.seq (.seq (.reg []
 [⟨some 9, none, .mov, [.t 0]⟩,
 ⟨some 10, none, .bin .eql .scal, [.t 9, .c (.str (bstr []))]⟩,
 ⟨some 11, none, .mov, [.t 10]⟩,
 ⟨some 12, some (11, false), .mov, [.t 0]⟩,
 ⟨some 13, some (11, false), .lenS, [.t 12]⟩,
 ⟨some 14, some (11, false), .bin .gtr .scal, [.t 13, .c (.int .i64 3)]⟩,
 ⟨some 15, none, .pick, [.t 11, .c (.bool true), .t 14]⟩,
 ⟨some 16, none, .mov, [.t 15]⟩,
 ⟨some 17, some (16, false), .mov, [.t 0]⟩,
 ⟨some 18, some (16, false), .lenS, [.t 17]⟩,
 ⟨some 19, some (16, false), .bin .gtr .scal, [.t 18, .c (.int .i64 1)]⟩,
 ⟨some 20, some (16, false), .mov, [.t 19]⟩,
 ⟨some 21, some (20, true), .mov, [.t 0]⟩,
 ⟨some 22, some (20, true), .idxS, [.t 21, .c (.int .i64 0)]⟩,
 ⟨some 23, some (20, true), .bin .eql .scal, [.t 22, .c (.int .u8 48)]⟩,
 ⟨some 24, some (16, false), .pick, [.t 20, .t 23, .c (.bool false)]⟩,
 ⟨some 25, none, .pick, [.t 16, .c (.bool true), .t 24]⟩,
 ⟨some 26, none, .mov, [.t 25]⟩,
 ⟨some 27, some (26, false), .mov, [.t 0]⟩,
 ⟨some 28, some (26, false), .mov, [.t 6]⟩,
 ⟨some 29, some (26, false), .call 92, [.t 27, .t 28]⟩,
 ⟨some 30, none, .pick, [.t 26, .c (.bool true), .t 29]⟩])
 (.cond (.t 30)
 (.seq (.reg []
 [⟨some 4, none, .mov, [.c (.int .i64 0)]⟩,
 ⟨some 5, none, .mov, [.c (.bool false)]⟩])
 .ret)
 .skip))
 (.seq (.reg []
 [⟨some 32, none, .mov, [.t 0]⟩,
 ⟨some 33, none, .call 60, [.t 32]⟩,
 ⟨some 31, none, .mov, [.t 33]⟩,
 ⟨some 34, none, .ext 0, [.t 31]⟩,
 ⟨some 35, none, .ext 1, [.t 31]⟩,
 ⟨some 7, none, .mov, [.t 34]⟩,
 ⟨some 8, none, .mov, [.t 35]⟩])
 (.seq (.reg []
 [⟨some 36, none, .mov, [.t 7]⟩,
 ⟨some 37, none, .mov, [.t 7]⟩,
 ⟨some 38, none, .mov, [.t 1]⟩,
 ⟨some 39, none, .bin .leq .scal, [.t 37, .t 38]⟩,
 ⟨some 4, none, .mov, [.t 36]⟩,
 ⟨some 5, none, .mov, [.t 39]⟩])
 .ret))))
theorem i62 : fnInfo Tryz.prog 62 = some (40, [.t 4, .t 5], ac62) := by kernel_rfl
/-- "crossroads/addr.isLong": 9 temporaries, 1 parameters, results some [.t 2]. -/
def ac67 : AC :=
 .seq (.reg []
 [⟨some 2, none, .mov, [.c (.bool false)]⟩])
 (.seq (.reg []
 [⟨some 3, none, .mov, [.t 0]⟩,
 ⟨some 4, none, .bin .geq .scal, [.t 3, .c (.int .i64 0)]⟩,
 ⟨some 5, none, .mov, [.t 4]⟩,
 ⟨some 6, some (5, true), .mov, [.t 0]⟩,
 ⟨some 7, some (5, true), .bin .leq .scal, [.t 6, .c (.int .i64 32)]⟩,
 ⟨some 8, none, .pick, [.t 5, .t 7, .c (.bool false)]⟩,
 ⟨some 2, none, .mov, [.t 8]⟩])
 .ret)
theorem i67 : fnInfo Tryz.prog 67 = some (9, [.t 2], ac67) := by kernel_rfl
/-- "crossroads/addr.Mask": 10 temporaries, 1 parameters, results some [.t 2]. -/
def ac68 : AC :=
 .seq (.reg []
 [⟨some 2, none, .mov, [.c (.int .u32 0)]⟩])
 (.seq (.reg []
 [⟨some 3, none, .mov, [.t 0]⟩,
 ⟨some 4, none, .minmax true, [.t 3, .c (.int .i64 0)]⟩,
 ⟨some 5, none, .minmax false, [.t 4, .c (.int .i64 32)]⟩,
 ⟨some 0, none, .mov, [.t 5]⟩])
 (.seq (.reg []
 [⟨some 6, none, .mov, [.t 0]⟩,
 ⟨some 7, none, .bin .sub .scal, [.c (.int .i64 32), .t 6]⟩,
 ⟨some 8, none, .bin .shl .scal, [.c (.int .u64 4294967295), .t 7]⟩,
 ⟨some 9, none, .conv .u32, [.t 8]⟩,
 ⟨some 2, none, .mov, [.t 9]⟩])
 .ret))
theorem i68 : fnInfo Tryz.prog 68 = some (10, [.t 2], ac68) := by kernel_rfl
/-- "crossroads/crossroadsref03.Bit": 18 temporaries, 2 parameters, results some [.t 4]. -/
def ac69 : AC :=
 .seq (.reg []
 [⟨some 4, none, .mov, [.c (.int .i64 0)]⟩])
 (.seq (.seq (.reg []
 [⟨some 5, none, .mov, [.t 1]⟩,
 ⟨some 6, none, .bin .lss .scal, [.t 5, .c (.int .i64 0)]⟩,
 ⟨some 7, none, .mov, [.t 6]⟩,
 ⟨some 8, some (7, false), .mov, [.t 1]⟩,
 ⟨some 9, some (7, false), .bin .gtr .scal, [.t 8, .c (.int .i64 31)]⟩,
 ⟨some 10, none, .pick, [.t 7, .c (.bool true), .t 9]⟩])
 (.cond (.t 10)
 (.seq (.reg []
 [⟨some 4, none, .mov, [.c (.int .i64 0)]⟩])
 .ret)
 .skip))
 (.seq (.reg []
 [⟨some 11, none, .mov, [.t 0]⟩,
 ⟨some 12, none, .mov, [.t 1]⟩,
 ⟨some 13, none, .bin .sub .scal, [.c (.int .i64 31), .t 12]⟩,
 ⟨some 14, none, .conv .u64, [.t 13]⟩,
 ⟨some 15, none, .bin .shr .scal, [.t 11, .t 14]⟩,
 ⟨some 16, none, .bin .and .scal, [.t 15, .c (.int .u32 1)]⟩,
 ⟨some 17, none, .conv .i64, [.t 16]⟩,
 ⟨some 4, none, .mov, [.t 17]⟩])
 .ret))
theorem i69 : fnInfo Tryz.prog 69 = some (18, [.t 4], ac69) := by kernel_rfl
/-- "crossroads/addr.Has": 17 temporaries, 2 parameters, results some [.t 4]. -/
def ac70 : AC :=
 .seq (.reg []
 [⟨some 2, none, .box, [.t 0]⟩,
 ⟨some 4, none, .mov, [.c (.bool false)]⟩])
 (.seq (.reg [[], [0], [1, 1], [2], [2], [4, 2], [5, 2, 2], [3, 6, 2], [2], [8, 2], [7, 9, 2], [2, 10], [11, 6, 0, 1, 2, 3, 4, 5, 6, 7, 8, 9, 10, 11]]
 [⟨some 5, none, .load (some 2), [.t 2]⟩,
 ⟨some 6, none, .call 37, [.t 5]⟩,
 ⟨some 7, none, .mov, [.t 6]⟩,
 ⟨some 8, some (7, true), .mov, [.t 1]⟩,
 ⟨some 9, some (7, true), .fldA 1, [.t 2]⟩,
 ⟨some 10, some (7, true), .load none, [.t 9]⟩,
 ⟨some 11, some (7, true), .call 68, [.t 10]⟩,
 ⟨some 12, some (7, true), .bin .and .scal, [.t 8, .t 11]⟩,
 ⟨some 13, some (7, true), .fldA 0, [.t 2]⟩,
 ⟨some 14, some (7, true), .load none, [.t 13]⟩,
 ⟨some 15, some (7, true), .bin .eql .scal, [.t 12, .t 14]⟩,
 ⟨some 16, none, .pick, [.t 7, .t 15, .c (.bool false)]⟩,
 ⟨some 4, none, .mov, [.t 16]⟩])
 .ret)
theorem i70 : fnInfo Tryz.prog 70 = some (17, [.t 4], ac70) := by kernel_rfl
def ac73_1 : AC :=
 .seq (.seq (.reg []
 [⟨some 8, none, .mov, [.t 7]⟩,
 ⟨some 9, none, .mov, [.t 0]⟩,
 ⟨some 10, none, .lenS, [.t 9]⟩,
 ⟨some 11, none, .bin .lss .scal, [.t 8, .t 10]⟩,
 ⟨some 12, none, .mov, [.t 11]⟩,
 ⟨some 13, some (12, true), .mov, [.t 0]⟩,
 ⟨some 14, some (12, true), .mov, [.t 7]⟩,
 ⟨some 15, some (12, true), .idxS, [.t 13, .t 14]⟩,
 ⟨some 16, some (12, true), .bin .geq .scal, [.t 15, .c (.int .u8 48)]⟩,
 ⟨some 17, none, .pick, [.t 12, .t 16, .c (.bool false)]⟩,
 ⟨some 18, none, .mov, [.t 17]⟩,
 ⟨some 19, some (18, true), .mov, [.t 0]⟩,
 ⟨some 20, some (18, true), .mov, [.t 7]⟩,
 ⟨some 21, some (18, true), .idxS, [.t 19, .t 20]⟩,
 ⟨some 22, some (18, true), .bin .leq .scal, [.t 21, .c (.int .u8 57)]⟩,
 ⟨some 23, none, .pick, [.t 18, .t 22, .c (.bool false)]⟩,
 ⟨some 24, none, .mov, [.t 23]⟩,
 ⟨some 25, some (24, true), .mov, [.t 7]⟩,
 ⟨some 26, some (24, true), .bin .lss .scal, [.t 25, .c (.int .i64 4)]⟩,
 ⟨some 27, none, .pick, [.t 24, .t 26, .c (.bool false)]⟩])
 (.cond (.t 27)
 .skip
 (.exit 0)))
 (.block 1 (.seq (.reg []
 [⟨some 28, none, .mov, [.t 6]⟩,
 ⟨some 29, none, .bin .mul .scal, [.t 28, .c (.int .i64 10)]⟩,
 ⟨some 30, none, .mov, [.t 0]⟩,
 ⟨some 31, none, .mov, [.t 7]⟩,
 ⟨some 32, none, .idxS, [.t 30, .t 31]⟩,
 ⟨some 33, none, .bin .sub .scal, [.t 32, .c (.int .u8 48)]⟩,
 ⟨some 34, none, .conv .i64, [.t 33]⟩,
 ⟨some 35, none, .bin .add .scal, [.t 29, .t 34]⟩,
 ⟨some 6, none, .mov, [.t 35]⟩])
 (.reg []
 [⟨some 36, none, .mov, [.t 7]⟩,
 ⟨some 37, none, .bin .add .scal, [.t 36, .c (.int .i64 1)]⟩,
 ⟨some 7, none, .mov, [.t 37]⟩])))
/-- "crossroads/crossroadsref03.number": 56 temporaries, 2 parameters, results some [.t 4, .t 5]. -/
def ac73 : AC :=
 .seq (.reg []
 [⟨some 4, none, .mov, [.c (.int .i64 0)]⟩,
 ⟨some 5, none, .mov, [.c (.int .i64 0)]⟩])
 (.seq (.reg []
 [⟨some 6, none, .mov, [.c (.int .i64 0)]⟩,
 ⟨some 7, none, .mov, [.c (.int .i64 0)]⟩])
 (.seq (.block 0 (.loop ac73_1))
 (.seq (.seq (.reg []
 [⟨some 38, none, .mov, [.t 7]⟩,
 ⟨some 39, none, .bin .eql .scal, [.t 38, .c (.int .i64 0)]⟩,
 ⟨some 40, none, .mov, [.t 39]⟩,
 ⟨some 41, some (40, false), .mov, [.t 7]⟩,
 ⟨some 42, some (40, false), .bin .gtr .scal, [.t 41, .c (.int .i64 1)]⟩,
 ⟨some 43, some (40, false), .mov, [.t 42]⟩,
 ⟨some 44, some (43, true), .mov, [.t 0]⟩,
 ⟨some 45, some (43, true), .idxS, [.t 44, .c (.int .i64 0)]⟩,
 ⟨some 46, some (43, true), .bin .eql .scal, [.t 45, .c (.int .u8 48)]⟩,
 ⟨some 47, some (40, false), .pick, [.t 43, .t 46, .c (.bool false)]⟩,
 ⟨some 48, none, .pick, [.t 40, .c (.bool true), .t 47]⟩,
 ⟨some 49, none, .mov, [.t 48]⟩,
 ⟨some 50, some (49, false), .mov, [.t 6]⟩,
 ⟨some 51, some (49, false), .mov, [.t 1]⟩,
 ⟨some 52, some (49, false), .bin .gtr .scal, [.t 50, .t 51]⟩,
 ⟨some 53, none, .pick, [.t 49, .c (.bool true), .t 52]⟩])
 (.cond (.t 53)
 (.seq (.reg []
 [⟨some 4, none, .mov, [.c (.int .i64 0)]⟩,
 ⟨some 5, none, .mov, [.c (.int .i64 0)]⟩])
 .ret)
 .skip))
 (.seq (.reg []
 [⟨some 54, none, .mov, [.t 6]⟩,
 ⟨some 55, none, .mov, [.t 7]⟩,
 ⟨some 4, none, .mov, [.t 54]⟩,
 ⟨some 5, none, .mov, [.t 55]⟩])
 .ret))))
theorem i73 : fnInfo Tryz.prog 73 = some (56, [.t 4, .t 5], ac73) := by kernel_rfl
/-- "crossroads/addr.number$1": 9 temporaries, 1 parameters, results some [.t 2]. -/
def ac91 : AC :=
 .seq (.reg []
 [⟨some 2, none, .mov, [.c (.bool false)]⟩])
 (.seq (.reg []
 [⟨some 3, none, .mov, [.t 0]⟩,
 ⟨some 4, none, .bin .lss .scal, [.t 3, .c (.int .i32 48)]⟩,
 ⟨some 5, none, .mov, [.t 4]⟩,
 ⟨some 6, some (5, false), .mov, [.t 0]⟩,
 ⟨some 7, some (5, false), .bin .gtr .scal, [.t 6, .c (.int .i32 57)]⟩,
 ⟨some 8, none, .pick, [.t 5, .c (.bool true), .t 7]⟩,
 ⟨some 2, none, .mov, [.t 8]⟩])
 .ret)
theorem i91 : fnInfo Tryz.prog 91 = some (9, [.t 2], ac91) := by kernel_rfl
end Go.Proofs.YtjcpkgnlnmajjaaGreatDoor.Abs

/- The functions of the program as the abstract machine's code: each is what the model's code is turned into. -/
import Derived.Test.YtjcpkgnlnmajjaaGreatDoorA20
import Derived.Test.YtjcpkgnlnmajjaaGreatDoorP0
import Derived.Test.YtjcpkgnlnmajjaaGreatDoorProg
import Derived.KernelRfl
namespace Go.Proofs.YtjcpkgnlnmajjaaGreatDoor.Abs
open Go

theorem mixed : Tryz.prog.follows .mixedOrders = true := by kernel_rfl

/-- "crossroads/crossroadslaw07.PlistLists": 125 temporaries, 3 parameters, results some [.t 6]. -/
def ac7 : AC :=
 .seq (.reg []
 [⟨some 4, none, .box, [.t 1]⟩,
 ⟨some 5, none, .box, [.t 2]⟩,
 ⟨some 6, none, .mov, [.c (.bool false)]⟩])
 (.seq (.seq (.reg []
 [⟨some 21, none, .mov, [.t 0]⟩,
 ⟨some 22, none, .lenL, [.t 21]⟩,
 ⟨some 23, none, .bin .gtr .scal, [.t 22, .c (.int .i64 210)]⟩,
 ⟨some 24, none, .mov, [.t 23]⟩,
 ⟨some 25, some (24, false), .mov, [.t 0]⟩,
 ⟨some 26, some (24, false), .call 19, [.t 25]⟩,
 ⟨some 27, some (24, false), .call 18, [.t 26]⟩,
 ⟨some 28, some (24, false), .unNot, [.t 27]⟩,
 ⟨some 29, none, .pick, [.t 24, .c (.bool true), .t 28]⟩])
 (.cond (.t 29)
 (.seq (.reg []
 [⟨some 30, none, .call 11, []⟩,
 ⟨some 6, none, .mov, [.t 30]⟩])
 .ret)
 .skip))
 (.seq (.reg []
 [⟨some 31, none, .bslice 6 26, []⟩,
 ⟨some 32, none, .mov, [.t 0]⟩,
 ⟨some 33, none, .append 6 26 48, [.t 31, .t 32]⟩,
 ⟨some 7, none, .mov, [.t 33]⟩])
 (.seq (.reg []
 [⟨some 35, none, .mov, [.t 7]⟩,
 ⟨some 36, none, .load (some 6), [.t 4]⟩,
 ⟨some 37, none, .call 23, [.t 35, .t 36]⟩,
 ⟨some 34, none, .mov, [.t 37]⟩,
 ⟨some 38, none, .ext 0, [.t 34]⟩,
 ⟨some 39, none, .ext 1, [.t 34]⟩,
 ⟨some 8, none, .mov, [.t 38]⟩,
 ⟨some 9, none, .mov, [.t 39]⟩])
 (.seq (.reg [[], [0], [], [2, 1], [1, 3, 3], [4], [5], [5], [6, 4, 0, 1, 2, 3, 4, 5, 6], [7, 8, 0, 1, 2, 3, 4, 5, 6, 7, 8]]
 [⟨some 41, none, .mov, [.t 0]⟩,
 ⟨some 42, none, .call 19, [.t 41]⟩,
 ⟨some 43, none, .load (some 6), [.t 4]⟩,
 ⟨some 44, none, .call 13, [.t 43]⟩,
 ⟨some 45, none, .call 25, [.t 42, .t 44]⟩,
 ⟨some 40, none, .mov, [.t 45]⟩,
 ⟨some 46, none, .ext 0, [.t 40]⟩,
 ⟨some 47, none, .ext 1, [.t 40]⟩,
 ⟨some 10, none, .mov, [.t 46]⟩,
 ⟨some 11, none, .mov, [.t 47]⟩])
 (.seq (.reg []
 [⟨some 49, none, .mov, [.t 7]⟩,
 ⟨some 50, none, .fldA 0, [.t 4]⟩,
 ⟨some 51, none, .load none, [.t 50]⟩,
 ⟨some 52, none, .call 21, [.t 49, .t 51]⟩,
 ⟨some 48, none, .mov, [.t 52]⟩,
 ⟨some 53, none, .ext 0, [.t 48]⟩,
 ⟨some 54, none, .ext 1, [.t 48]⟩,
 ⟨some 12, none, .mov, [.t 53]⟩,
 ⟨some 13, none, .mov, [.t 54]⟩])
 (.seq (.reg [[], [0], [], [2], [1, 3, 1], [4], [5], [5], [6, 4, 0, 1, 2, 3, 4, 5, 6], [7, 8, 0, 1, 2, 3, 4, 5, 6, 7, 8]]
 [⟨some 56, none, .mov, [.t 0]⟩,
 ⟨some 57, none, .call 19, [.t 56]⟩,
 ⟨some 58, none, .fldA 0, [.t 4]⟩,
 ⟨some 59, none, .load none, [.t 58]⟩,
 ⟨some 60, none, .call 26, [.t 57, .t 59]⟩,
 ⟨some 55, none, .mov, [.t 60]⟩,
 ⟨some 61, none, .ext 0, [.t 55]⟩,
 ⟨some 62, none, .ext 1, [.t 55]⟩,
 ⟨some 14, none, .mov, [.t 61]⟩,
 ⟨some 15, none, .mov, [.t 62]⟩])
 (.seq (.reg []
 [⟨some 64, none, .mov, [.t 7]⟩,
 ⟨some 65, none, .load (some 2), [.t 5]⟩,
 ⟨some 66, none, .call 22, [.t 64, .t 65]⟩,
 ⟨some 63, none, .mov, [.t 66]⟩,
 ⟨some 67, none, .ext 0, [.t 63]⟩,
 ⟨some 68, none, .ext 1, [.t 63]⟩,
 ⟨some 16, none, .mov, [.t 67]⟩,
 ⟨some 17, none, .mov, [.t 68]⟩])
 (.seq (.reg [[], [0], [], [1, 2, 1], [3], [4], [4], [5, 3, 0, 1, 2, 3, 4, 5], [6, 7, 0, 1, 2, 3, 4, 5, 6, 7]]
 [⟨some 70, none, .mov, [.t 0]⟩,
 ⟨some 71, none, .call 19, [.t 70]⟩,
 ⟨some 72, none, .load (some 2), [.t 5]⟩,
 ⟨some 73, none, .call 27, [.t 71, .t 72]⟩,
 ⟨some 69, none, .mov, [.t 73]⟩,
 ⟨some 74, none, .ext 0, [.t 69]⟩,
 ⟨some 75, none, .ext 1, [.t 69]⟩,
 ⟨some 18, none, .mov, [.t 74]⟩,
 ⟨some 19, none, .mov, [.t 75]⟩])
 (.seq (.reg []
 [⟨some 76, none, .mov, [.t 8]⟩,
 ⟨some 77, none, .call 19, [.t 76]⟩,
 ⟨some 78, none, .mov, [.t 10]⟩,
 ⟨some 79, none, .call 24, [.t 77, .t 78]⟩,
 ⟨some 80, none, .mov, [.t 79]⟩,
 ⟨some 81, some (80, true), .mov, [.t 12]⟩,
 ⟨some 82, some (80, true), .call 19, [.t 81]⟩,
 ⟨some 83, some (80, true), .mov, [.t 14]⟩,
 ⟨some 84, some (80, true), .call 24, [.t 82, .t 83]⟩,
 ⟨some 85, none, .pick, [.t 80, .t 84, .c (.bool false)]⟩,
 ⟨some 86, none, .mov, [.t 85]⟩,
 ⟨some 87, some (86, true), .mov, [.t 7]⟩,
 ⟨some 88, some (86, true), .call 20, [.t 87]⟩,
 ⟨some 89, some (86, true), .mov, [.t 0]⟩,
 ⟨some 90, some (86, true), .call 19, [.t 89]⟩,
 ⟨some 91, some (86, true), .call 29, [.t 90]⟩,
 ⟨some 92, some (86, true), .call 28, [.t 88, .t 91]⟩,
 ⟨some 93, none, .pick, [.t 86, .t 92, .c (.bool false)]⟩,
 ⟨some 20, none, .mov, [.t 93]⟩])
 (.seq (.reg []
 [⟨some 94, none, .call 11, []⟩,
 ⟨some 95, none, .mov, [.t 94]⟩,
 ⟨some 96, some (95, true), .mov, [.t 20]⟩,
 ⟨some 97, none, .pick, [.t 95, .t 96, .c (.bool false)]⟩,
 ⟨some 98, none, .mov, [.t 97]⟩,
 ⟨some 99, some (98, true), .mov, [.t 9]⟩,
 ⟨some 100, some (98, true), .mov, [.t 11]⟩,
 ⟨some 101, some (98, true), .bin .eql .scal, [.t 99, .t 100]⟩,
 ⟨some 102, none, .pick, [.t 98, .t 101, .c (.bool false)]⟩,
 ⟨some 103, none, .mov, [.t 102]⟩,
 ⟨some 104, some (103, true), .mov, [.t 13]⟩,
 ⟨some 105, some (103, true), .mov, [.t 15]⟩,
 ⟨some 106, some (103, true), .bin .eql .scal, [.t 104, .t 105]⟩,
 ⟨some 107, none, .pick, [.t 103, .t 106, .c (.bool false)]⟩,
 ⟨some 108, none, .mov, [.t 107]⟩,
 ⟨some 109, some (108, true), .mov, [.t 16]⟩,
 ⟨some 110, some (108, true), .mov, [.t 18]⟩,
 ⟨some 111, some (108, true), .bin .eql .bool, [.t 109, .t 110]⟩,
 ⟨some 112, none, .pick, [.t 108, .t 111, .c (.bool false)]⟩,
 ⟨some 113, none, .mov, [.t 112]⟩,
 ⟨some 114, some (113, true), .mov, [.t 17]⟩,
 ⟨some 115, some (113, true), .mov, [.t 19]⟩,
 ⟨some 116, some (113, true), .bin .eql .scal, [.t 114, .t 115]⟩,
 ⟨some 117, none, .pick, [.t 113, .t 116, .c (.bool false)]⟩,
 ⟨some 118, none, .mov, [.t 117]⟩,
 ⟨some 119, some (118, true), .mov, [.t 7]⟩,
 ⟨some 120, some (118, true), .call 19, [.t 119]⟩,
 ⟨some 121, some (118, true), .mov, [.t 0]⟩,
 ⟨some 122, some (118, true), .call 19, [.t 121]⟩,
 ⟨some 123, some (118, true), .call 24, [.t 120, .t 122]⟩,
 ⟨some 124, none, .pick, [.t 118, .t 123, .c (.bool false)]⟩,
 ⟨some 6, none, .mov, [.t 124]⟩])
 .ret))))))))))
theorem i7 : fnInfo Tryz.prog 7 = some (125, [.t 6], ac7) := by kernel_rfl
/-- "crossroads/plist.Parse": 70 temporaries, 1 parameters, results some [.c 2 (some 6), .t 3]. -/
def ac8 : AC :=
 .seq (.reg []
 [⟨some 2, none, .alloc [.int .i64 0, .bool false, .int .u32 0, .int .i64 0, .int .i64 0, .int .i64 0], []⟩,
 ⟨some 3, none, .mov, [.c (.int .i64 0)]⟩])
 (.seq (.reg []
 [⟨some 8, none, .mov, [.t 0]⟩,
 ⟨some 9, none, .call 30, [.t 8, .c (.str (bstr [32]))]⟩,
 ⟨some 4, none, .mov, [.t 9]⟩])
 (.seq (.seq (.reg []
 [⟨some 10, none, .mov, [.t 4]⟩,
 ⟨some 11, none, .lenL, [.t 10]⟩,
 ⟨some 12, none, .bin .lss .scal, [.t 11, .c (.int .i64 3)]⟩,
 ⟨some 13, none, .mov, [.t 12]⟩,
 ⟨some 14, some (13, false), .mov, [.t 4]⟩,
 ⟨some 15, some (13, false), .idxA 1, [.t 14, .c (.int .i64 0)]⟩,
 ⟨some 16, some (13, false), .load none, [.t 15]⟩,
 ⟨some 17, some (13, false), .call 31, [.t 16]⟩,
 ⟨some 18, some (13, false), .bin .eql .scal, [.t 17, .c (.int .i64 0)]⟩,
 ⟨some 19, none, .pick, [.t 13, .c (.bool true), .t 18]⟩,
 ⟨some 20, none, .mov, [.t 19]⟩,
 ⟨some 21, some (20, false), .mov, [.t 4]⟩,
 ⟨some 22, some (20, false), .idxA 1, [.t 21, .c (.int .i64 1)]⟩,
 ⟨some 23, some (20, false), .load none, [.t 22]⟩,
 ⟨some 24, some (20, false), .bin .neq .scal, [.t 23, .c (.str (bstr [112, 101, 114, 109, 105, 116]))]⟩,
 ⟨some 25, some (20, false), .mov, [.t 24]⟩,
 ⟨some 26, some (25, true), .mov, [.t 4]⟩,
 ⟨some 27, some (25, true), .idxA 1, [.t 26, .c (.int .i64 1)]⟩,
 ⟨some 28, some (25, true), .load none, [.t 27]⟩,
 ⟨some 29, some (25, true), .bin .neq .scal, [.t 28, .c (.str (bstr [100, 101, 110, 121]))]⟩,
 ⟨some 30, some (20, false), .pick, [.t 25, .t 29, .c (.bool false)]⟩,
 ⟨some 31, none, .pick, [.t 20, .c (.bool true), .t 30]⟩])
 (.cond (.t 31)
 (.seq (.reg []
 [⟨some 32, none, .build [.int .i64 0, .bool false, .int .u32 0, .int .i64 0, .int .i64 0, .int .i64 0] [], []⟩,
 ⟨none, none, .store 6, [.t 2, .t 32]⟩,
 ⟨some 3, none, .mov, [.c (.int .i64 3)]⟩])
 .ret)
 .skip))
 (.seq (.reg []
 [⟨some 34, none, .mov, [.t 4]⟩,
 ⟨some 35, none, .idxA 1, [.t 34, .c (.int .i64 2)]⟩,
 ⟨some 36, none, .load none, [.t 35]⟩,
 ⟨some 37, none, .call 32, [.t 36]⟩,
 ⟨some 33, none, .mov, [.t 37]⟩,
 ⟨some 38, none, .ext 0, [.t 33]⟩,
 ⟨some 39, none, .ext 1, [.t 33]⟩,
 ⟨some 5, none, .alloc [.int .u32 0, .int .i64 0], []⟩,
 ⟨none, none, .store 2, [.t 5, .t 38]⟩,
 ⟨some 6, none, .mov, [.t 39]⟩])
 (.seq (.reg [[], [0], [1], [2], [], [4], [5], [6], [], [3, 7, 8], [], [10, 9, 3, 0, 1, 2, 3, 4, 5, 6, 7, 8, 9, 10]]
 [⟨some 40, none, .mov, [.t 4]⟩,
 ⟨some 41, none, .idxA 1, [.t 40, .c (.int .i64 0)]⟩,
 ⟨some 42, none, .load none, [.t 41]⟩,
 ⟨some 43, none, .call 31, [.t 42]⟩,
 ⟨some 44, none, .mov, [.t 4]⟩,
 ⟨some 45, none, .idxA 1, [.t 44, .c (.int .i64 1)]⟩,
 ⟨some 46, none, .load none, [.t 45]⟩,
 ⟨some 47, none, .bin .eql .scal, [.t 46, .c (.str (bstr [112, 101, 114, 109, 105, 116]))]⟩,
 ⟨some 48, none, .load (some 2), [.t 5]⟩,
 ⟨some 49, none, .build [.int .i64 0, .bool false, .int .u32 0, .int .i64 0, .int .i64 0, .int .i64 0] [(0, 1), (1, 1), (2, 2)], [.t 43, .t 47, .t 48]⟩,
 ⟨some 7, none, .alloc [.int .i64 0, .bool false, .int .u32 0, .int .i64 0, .int .i64 0, .int .i64 0], []⟩,
 ⟨none, none, .store 6, [.t 7, .t 49]⟩])
 (.seq (.block 0 (.seq (.reg []
 [⟨some 51, none, .mov, [.t 6]⟩,
 ⟨some 52, none, .bin .eql .scal, [.t 51, .c (.int .i64 3)]⟩,
 ⟨some 53, none, .mov, [.t 52]⟩,
 ⟨some 54, some (53, false), .mov, [.t 4]⟩,
 ⟨some 55, some (53, false), .slice 1 true false, [.t 54, .c (.int .i64 3)]⟩,
 ⟨some 56, some (53, false), .call 33, [.t 7, .t 55]⟩,
 ⟨some 57, some (53, false), .unNot, [.t 56]⟩,
 ⟨some 58, none, .pick, [.t 53, .c (.bool true), .t 57]⟩,
 ⟨some 50, none, .mov, [.t 58]⟩])
 (.cond (.t 50)
 (.seq (.reg []
 [⟨some 59, none, .build [.int .i64 0, .bool false, .int .u32 0, .int .i64 0, .int .i64 0, .int .i64 0] [], []⟩,
 ⟨none, none, .store 6, [.t 2, .t 59]⟩,
 ⟨some 3, none, .mov, [.c (.int .i64 3)]⟩])
 .ret)
 (.seq (.reg []
 [⟨some 61, none, .mov, [.t 6]⟩,
 ⟨some 62, none, .bin .neq .scal, [.t 61, .c (.int .i64 0)]⟩,
 ⟨some 63, none, .mov, [.t 62]⟩,
 ⟨some 64, some (63, false), .load (some 6), [.t 7]⟩,
 ⟨some 65, some (63, false), .call 10, [.t 64]⟩,
 ⟨some 66, some (63, false), .unNot, [.t 65]⟩,
 ⟨some 67, none, .pick, [.t 63, .c (.bool true), .t 66]⟩,
 ⟨some 60, none, .mov, [.t 67]⟩])
 (.cond (.t 60)
 (.seq (.reg []
 [⟨some 68, none, .build [.int .i64 0, .bool false, .int .u32 0, .int .i64 0, .int .i64 0, .int .i64 0] [], []⟩,
 ⟨none, none, .store 6, [.t 2, .t 68]⟩,
 ⟨some 3, none, .mov, [.c (.int .i64 1)]⟩])
 .ret)
 .skip)))))
 (.seq (.reg []
 [⟨some 69, none, .load (some 6), [.t 7]⟩,
 ⟨none, none, .store 6, [.t 2, .t 69]⟩,
 ⟨some 3, none, .mov, [.c (.int .i64 0)]⟩])
 .ret))))))
theorem i8 : fnInfo Tryz.prog 8 = some (70, [.c 2 (some 6), .t 3], ac8) := by kernel_rfl
/-- "crossroads/plist.Text": 35 temporaries, 1 parameters, results some [.t 2]. -/
def ac9 : AC :=
 .seq (.reg []
 [⟨some 1, none, .box, [.t 0]⟩,
 ⟨some 2, none, .mov, [.c (.str (bstr []))]⟩])
 (.seq (.reg [[], [0], [1], [], [3], [4, 2], [2, 5], [6, 5, 0, 1, 2, 3, 4, 5, 6]]
 [⟨some 4, none, .fldA 0, [.t 1]⟩,
 ⟨some 5, none, .load none, [.t 4]⟩,
 ⟨some 6, none, .call 34, [.t 5]⟩,
 ⟨some 7, none, .fldA 2, [.t 1]⟩,
 ⟨some 8, none, .load (some 2), [.t 7]⟩,
 ⟨some 9, none, .call 35, [.t 8]⟩,
 ⟨some 10, none, .bslice 1 9, [.t 6, .c (.str (bstr [100, 101, 110, 121])), .t 9]⟩,
 ⟨some 3, none, .mov, [.t 10]⟩])
 (.seq (.seq (.reg []
 [⟨some 11, none, .fldA 1, [.t 1]⟩,
 ⟨some 12, none, .load none, [.t 11]⟩])
 (.cond (.t 12)
 (.reg []
 [⟨some 13, none, .mov, [.t 3]⟩,
 ⟨some 14, none, .idxA 1, [.t 13, .c (.int .i64 1)]⟩,
 ⟨none, none, .store 1, [.t 14, .c (.str (bstr [112, 101, 114, 109, 105, 116]))]⟩])
 .skip))
 (.seq (.seq (.reg []
 [⟨some 15, none, .fldA 4, [.t 1]⟩,
 ⟨some 16, none, .load none, [.t 15]⟩,
 ⟨some 17, none, .bin .neq .scal, [.t 16, .c (.int .i64 0)]⟩])
 (.cond (.t 17)
 (.reg []
 [⟨some 18, none, .mov, [.t 3]⟩,
 ⟨some 19, none, .fldA 4, [.t 1]⟩,
 ⟨some 20, none, .load none, [.t 19]⟩,
 ⟨some 21, none, .call 34, [.t 20]⟩,
 ⟨some 22, none, .bslice 1 9, [.c (.str (bstr [103, 101])), .t 21]⟩,
 ⟨some 23, none, .append 1 9 16, [.t 18, .t 22]⟩,
 ⟨some 3, none, .mov, [.t 23]⟩])
 .skip))
 (.seq (.seq (.reg []
 [⟨some 24, none, .fldA 5, [.t 1]⟩,
 ⟨some 25, none, .load none, [.t 24]⟩,
 ⟨some 26, none, .bin .neq .scal, [.t 25, .c (.int .i64 0)]⟩])
 (.cond (.t 26)
 (.reg []
 [⟨some 27, none, .mov, [.t 3]⟩,
 ⟨some 28, none, .fldA 5, [.t 1]⟩,
 ⟨some 29, none, .load none, [.t 28]⟩,
 ⟨some 30, none, .call 34, [.t 29]⟩,
 ⟨some 31, none, .bslice 1 9, [.c (.str (bstr [108, 101])), .t 30]⟩,
 ⟨some 32, none, .append 1 9 16, [.t 27, .t 31]⟩,
 ⟨some 3, none, .mov, [.t 32]⟩])
 .skip))
 (.seq (.reg []
 [⟨some 33, none, .mov, [.t 3]⟩,
 ⟨some 34, none, .call 36, [.t 33, .c (.str (bstr [32]))]⟩,
 ⟨some 2, none, .mov, [.t 34]⟩])
 .ret)))))
theorem i9 : fnInfo Tryz.prog 9 = some (35, [.t 2], ac9) := by kernel_rfl
/-- "crossroads/plist.May": 58 temporaries, 1 parameters, results some [.t 2]. -/
def ac10 : AC :=
 .seq (.reg []
 [⟨some 1, none, .box, [.t 0]⟩,
 ⟨some 2, none, .mov, [.c (.bool false)]⟩])
 (.seq (.seq (.reg []
 [⟨some 5, none, .fldA 0, [.t 1]⟩,
 ⟨some 6, none, .load none, [.t 5]⟩,
 ⟨some 7, none, .bin .lss .scal, [.t 6, .c (.int .i64 1)]⟩,
 ⟨some 8, none, .mov, [.t 7]⟩,
 ⟨some 9, some (8, false), .fldA 0, [.t 1]⟩,
 ⟨some 10, some (8, false), .load none, [.t 9]⟩,
 ⟨some 11, some (8, false), .bin .gtr .scal, [.t 10, .c (.int .i64 65535)]⟩,
 ⟨some 12, none, .pick, [.t 8, .c (.bool true), .t 11]⟩,
 ⟨some 13, none, .mov, [.t 12]⟩,
 ⟨some 14, some (13, false), .fldA 2, [.t 1]⟩,
 ⟨some 15, some (13, false), .load (some 2), [.t 14]⟩,
 ⟨some 16, some (13, false), .call 37, [.t 15]⟩,
 ⟨some 17, some (13, false), .unNot, [.t 16]⟩,
 ⟨some 18, none, .pick, [.t 13, .c (.bool true), .t 17]⟩])
 (.cond (.t 18)
 (.seq (.reg []
 [⟨some 2, none, .mov, [.c (.bool false)]⟩])
 .ret)
 .skip))
 (.seq (.reg []
 [⟨some 19, none, .fldA 4, [.t 1]⟩,
 ⟨some 20, none, .load none, [.t 19]⟩,
 ⟨some 21, none, .bin .eql .scal, [.t 20, .c (.int .i64 0)]⟩,
 ⟨some 22, none, .mov, [.t 21]⟩,
 ⟨some 23, some (22, false), .fldA 4, [.t 1]⟩,
 ⟨some 24, some (22, false), .load none, [.t 23]⟩,
 ⟨some 25, some (22, false), .fldA 2, [.t 1]⟩,
 ⟨some 26, some (22, false), .fldA 1, [.t 25]⟩,
 ⟨some 27, some (22, false), .load none, [.t 26]⟩,
 ⟨some 28, some (22, false), .bin .gtr .scal, [.t 24, .t 27]⟩,
 ⟨some 29, some (22, false), .mov, [.t 28]⟩,
 ⟨some 30, some (29, true), .fldA 4, [.t 1]⟩,
 ⟨some 31, some (29, true), .load none, [.t 30]⟩,
 ⟨some 32, some (29, true), .bin .leq .scal, [.t 31, .c (.int .i64 32)]⟩,
 ⟨some 33, some (22, false), .pick, [.t 29, .t 32, .c (.bool false)]⟩,
 ⟨some 34, none, .pick, [.t 22, .c (.bool true), .t 33]⟩,
 ⟨some 3, none, .mov, [.t 34]⟩])
 (.seq (.reg []
 [⟨some 35, none, .fldA 5, [.t 1]⟩,
 ⟨some 36, none, .load none, [.t 35]⟩,
 ⟨some 37, none, .bin .eql .scal, [.t 36, .c (.int .i64 0)]⟩,
 ⟨some 38, none, .mov, [.t 37]⟩,
 ⟨some 39, some (38, false), .fldA 5, [.t 1]⟩,
 ⟨some 40, some (38, false), .load none, [.t 39]⟩,
 ⟨some 41, some (38, false), .fldA 4, [.t 1]⟩,
 ⟨some 42, some (38, false), .load none, [.t 41]⟩,
 ⟨some 43, some (38, false), .fldA 2, [.t 1]⟩,
 ⟨some 44, some (38, false), .fldA 1, [.t 43]⟩,
 ⟨some 45, some (38, false), .load none, [.t 44]⟩,
 ⟨some 46, some (38, false), .minmax true, [.t 42, .t 45]⟩,
 ⟨some 47, some (38, false), .bin .geq .scal, [.t 40, .t 46]⟩,
 ⟨some 48, some (38, false), .mov, [.t 47]⟩,
 ⟨some 49, some (48, true), .fldA 5, [.t 1]⟩,
 ⟨some 50, some (48, true), .load none, [.t 49]⟩,
 ⟨some 51, some (48, true), .bin .leq .scal, [.t 50, .c (.int .i64 32)]⟩,
 ⟨some 52, some (38, false), .pick, [.t 48, .t 51, .c (.bool false)]⟩,
 ⟨some 53, none, .pick, [.t 38, .c (.bool true), .t 52]⟩,
 ⟨some 4, none, .mov, [.t 53]⟩])
 (.seq (.reg []
 [⟨some 54, none, .mov, [.t 3]⟩,
 ⟨some 55, none, .mov, [.t 54]⟩,
 ⟨some 56, some (55, true), .mov, [.t 4]⟩,
 ⟨some 57, none, .pick, [.t 55, .t 56, .c (.bool false)]⟩,
 ⟨some 2, none, .mov, [.t 57]⟩])
 .ret))))
theorem i10 : fnInfo Tryz.prog 10 = some (58, [.t 2], ac10) := by kernel_rfl
/-- "crossroads/crossroadslaw07.alive": 25 temporaries, 0 parameters, results some [.t 0]. -/
def ac11 : AC :=
 .seq (.reg []
 [⟨some 0, none, .mov, [.c (.bool false)]⟩])
 (.seq (.reg []
 [⟨some 4, none, .call 8, [.c (.str (bstr [53, 32, 112, 101, 114, 109, 105, 116, 32, 49, 48, 46, 48, 46, 48, 46, 48, 47, 56, 32, 108, 101, 32, 50, 52]))]⟩,
 ⟨some 3, none, .mov, [.t 4]⟩,
 ⟨some 5, none, .ext 0, [.t 3]⟩,
 ⟨some 6, none, .ext 1, [.t 3]⟩,
 ⟨some 1, none, .alloc [.int .i64 0, .bool false, .int .u32 0, .int .i64 0, .int .i64 0, .int .i64 0], []⟩,
 ⟨none, none, .store 6, [.t 1, .t 5]⟩,
 ⟨some 2, none, .mov, [.t 6]⟩])
 (.seq (.reg []
 [⟨some 7, none, .mov, [.t 2]⟩,
 ⟨some 8, none, .bin .eql .scal, [.t 7, .c (.int .i64 0)]⟩,
 ⟨some 9, none, .mov, [.t 8]⟩,
 ⟨some 10, some (9, true), .load (some 6), [.t 1]⟩,
 ⟨some 11, some (9, true), .build [.int .u32 0, .int .i64 0] [(0, 1), (1, 1)], [.c (.int .u32 167837696), .c (.int .i64 16)]⟩,
 ⟨some 12, some (9, true), .call 14, [.t 10, .t 11]⟩,
 ⟨some 13, none, .pick, [.t 9, .t 12, .c (.bool false)]⟩,
 ⟨some 14, none, .mov, [.t 13]⟩,
 ⟨some 15, some (14, true), .load (some 6), [.t 1]⟩,
 ⟨some 16, some (14, true), .build [.int .u32 0, .int .i64 0] [(0, 1), (1, 1)], [.c (.int .u32 167837952), .c (.int .i64 25)]⟩,
 ⟨some 17, some (14, true), .call 14, [.t 15, .t 16]⟩,
 ⟨some 18, some (14, true), .unNot, [.t 17]⟩,
 ⟨some 19, none, .pick, [.t 14, .t 18, .c (.bool false)]⟩,
 ⟨some 20, none, .mov, [.t 19]⟩,
 ⟨some 21, some (20, true), .load (some 6), [.t 1]⟩,
 ⟨some 22, some (20, true), .call 9, [.t 21]⟩,
 ⟨some 23, some (20, true), .bin .eql .scal, [.t 22, .c (.str (bstr [53, 32, 112, 101, 114, 109, 105, 116, 32, 49, 48, 46, 48, 46, 48, 46, 48, 47, 56, 32, 108, 101, 32, 50, 52]))]⟩,
 ⟨some 24, none, .pick, [.t 20, .t 23, .c (.bool false)]⟩,
 ⟨some 0, none, .mov, [.t 24]⟩])
 .ret))
theorem i11 : fnInfo Tryz.prog 11 = some (25, [.t 0], ac11) := by kernel_rfl
/-- "crossroads/crossroadsref07.May": 56 temporaries, 1 parameters, results some [.t 2]. -/
def ac12 : AC :=
 .seq (.reg []
 [⟨some 1, none, .box, [.t 0]⟩,
 ⟨some 2, none, .mov, [.c (.bool false)]⟩])
 (.seq (.seq (.reg []
 [⟨some 3, none, .fldA 0, [.t 1]⟩,
 ⟨some 4, none, .load none, [.t 3]⟩,
 ⟨some 5, none, .bin .lss .scal, [.t 4, .c (.int .i64 1)]⟩,
 ⟨some 6, none, .mov, [.t 5]⟩,
 ⟨some 7, some (6, false), .fldA 0, [.t 1]⟩,
 ⟨some 8, some (6, false), .load none, [.t 7]⟩,
 ⟨some 9, some (6, false), .bin .gtr .scal, [.t 8, .c (.int .i64 65535)]⟩,
 ⟨some 10, none, .pick, [.t 6, .c (.bool true), .t 9]⟩,
 ⟨some 11, none, .mov, [.t 10]⟩,
 ⟨some 12, some (11, false), .fldA 2, [.t 1]⟩,
 ⟨some 13, some (11, false), .load (some 2), [.t 12]⟩,
 ⟨some 14, some (11, false), .call 38, [.t 13]⟩,
 ⟨some 15, some (11, false), .unNot, [.t 14]⟩,
 ⟨some 16, none, .pick, [.t 11, .c (.bool true), .t 15]⟩])
 (.cond (.t 16)
 (.seq (.reg []
 [⟨some 2, none, .mov, [.c (.bool false)]⟩])
 .ret)
 .skip))
 (.seq (.seq (.reg []
 [⟨some 17, none, .fldA 4, [.t 1]⟩,
 ⟨some 18, none, .load none, [.t 17]⟩,
 ⟨some 19, none, .bin .neq .scal, [.t 18, .c (.int .i64 0)]⟩,
 ⟨some 20, none, .mov, [.t 19]⟩,
 ⟨some 21, some (20, true), .fldA 4, [.t 1]⟩,
 ⟨some 22, some (20, true), .load none, [.t 21]⟩,
 ⟨some 23, some (20, true), .fldA 2, [.t 1]⟩,
 ⟨some 24, some (20, true), .fldA 1, [.t 23]⟩,
 ⟨some 25, some (20, true), .load none, [.t 24]⟩,
 ⟨some 26, some (20, true), .bin .leq .scal, [.t 22, .t 25]⟩,
 ⟨some 27, some (20, true), .mov, [.t 26]⟩,
 ⟨some 28, some (27, false), .fldA 4, [.t 1]⟩,
 ⟨some 29, some (27, false), .load none, [.t 28]⟩,
 ⟨some 30, some (27, false), .bin .gtr .scal, [.t 29, .c (.int .i64 32)]⟩,
 ⟨some 31, some (20, true), .pick, [.t 27, .c (.bool true), .t 30]⟩,
 ⟨some 32, none, .pick, [.t 20, .t 31, .c (.bool false)]⟩])
 (.cond (.t 32)
 (.seq (.reg []
 [⟨some 2, none, .mov, [.c (.bool false)]⟩])
 .ret)
 .skip))
 (.seq (.reg []
 [⟨some 33, none, .fldA 5, [.t 1]⟩,
 ⟨some 34, none, .load none, [.t 33]⟩,
 ⟨some 35, none, .bin .eql .scal, [.t 34, .c (.int .i64 0)]⟩,
 ⟨some 36, none, .mov, [.t 35]⟩,
 ⟨some 37, some (36, false), .fldA 5, [.t 1]⟩,
 ⟨some 38, some (36, false), .load none, [.t 37]⟩,
 ⟨some 39, some (36, false), .fldA 4, [.t 1]⟩,
 ⟨some 40, some (36, false), .load none, [.t 39]⟩,
 ⟨some 41, some (36, false), .bin .geq .scal, [.t 38, .t 40]⟩,
 ⟨some 42, some (36, false), .mov, [.t 41]⟩,
 ⟨some 43, some (42, true), .fldA 5, [.t 1]⟩,
 ⟨some 44, some (42, true), .load none, [.t 43]⟩,
 ⟨some 45, some (42, true), .fldA 2, [.t 1]⟩,
 ⟨some 46, some (42, true), .fldA 1, [.t 45]⟩,
 ⟨some 47, some (42, true), .load none, [.t 46]⟩,
 ⟨some 48, some (42, true), .bin .geq .scal, [.t 44, .t 47]⟩,
 ⟨some 49, some (36, false), .pick, [.t 42, .t 48, .c (.bool false)]⟩,
 ⟨some 50, some (36, false), .mov, [.t 49]⟩,
 ⟨some 51, some (50, true), .fldA 5, [.t 1]⟩,
 ⟨some 52, some (50, true), .load none, [.t 51]⟩,
 ⟨some 53, some (50, true), .bin .leq .scal, [.t 52, .c (.int .i64 32)]⟩,
 ⟨some 54, some (36, false), .pick, [.t 50, .t 53, .c (.bool false)]⟩,
 ⟨some 55, none, .pick, [.t 36, .c (.bool true), .t 54]⟩,
 ⟨some 2, none, .mov, [.t 55]⟩])
 .ret)))
theorem i12 : fnInfo Tryz.prog 12 = some (56, [.t 2], ac12) := by kernel_rfl
/-- "crossroads/crossroadslaw07.plain": 14 temporaries, 1 parameters, results some [.c 2 (some 6)]. -/
def ac13 : AC :=
 .seq (.reg []
 [⟨some 1, none, .box, [.t 0]⟩,
 ⟨some 2, none, .alloc [.int .i64 0, .bool false, .int .u32 0, .int .i64 0, .int .i64 0, .int .i64 0], []⟩])
 (.seq (.reg []
 [⟨some 3, none, .fldA 0, [.t 1]⟩,
 ⟨some 4, none, .load none, [.t 3]⟩,
 ⟨some 5, none, .fldA 1, [.t 1]⟩,
 ⟨some 6, none, .load none, [.t 5]⟩,
 ⟨some 7, none, .fldA 2, [.t 1]⟩,
 ⟨some 8, none, .load (some 2), [.t 7]⟩,
 ⟨some 9, none, .fldA 4, [.t 1]⟩,
 ⟨some 10, none, .load none, [.t 9]⟩,
 ⟨some 11, none, .fldA 5, [.t 1]⟩,
 ⟨some 12, none, .load none, [.t 11]⟩,
 ⟨some 13, none, .build [.int .i64 0, .bool false, .int .u32 0, .int .i64 0, .int .i64 0, .int .i64 0] [(0, 1), (1, 1), (2, 2), (4, 1), (5, 1)], [.t 4, .t 6, .t 8, .t 10, .t 12]⟩,
 ⟨none, none, .store 6, [.t 2, .t 13]⟩])
 .ret)
theorem i13 : fnInfo Tryz.prog 13 = some (14, [.c 2 (some 6)], ac13) := by kernel_rfl
/-- "crossroads/plist.Means": 32 temporaries, 2 parameters, results some [.t 4]. -/
def ac14 : AC :=
 .seq (.reg []
 [⟨some 2, none, .box, [.t 0]⟩,
 ⟨some 3, none, .box, [.t 1]⟩,
 ⟨some 4, none, .mov, [.c (.bool false)]⟩])
 (.seq (.reg []
 [⟨some 8, none, .load (some 6), [.t 2]⟩,
 ⟨some 9, none, .call 39, [.t 8]⟩,
 ⟨some 7, none, .mov, [.t 9]⟩,
 ⟨some 10, none, .ext 0, [.t 7]⟩,
 ⟨some 11, none, .ext 1, [.t 7]⟩,
 ⟨some 5, none, .mov, [.t 10]⟩,
 ⟨some 6, none, .mov, [.t 11]⟩])
 (.seq (.reg []
 [⟨some 12, none, .load (some 6), [.t 2]⟩,
 ⟨some 13, none, .call 10, [.t 12]⟩,
 ⟨some 14, none, .mov, [.t 13]⟩,
 ⟨some 15, some (14, true), .fldA 2, [.t 2]⟩,
 ⟨some 16, some (14, true), .load (some 2), [.t 15]⟩,
 ⟨some 17, some (14, true), .load (some 2), [.t 3]⟩,
 ⟨some 18, some (14, true), .call 40, [.t 16, .t 17]⟩,
 ⟨some 19, none, .pick, [.t 14, .t 18, .c (.bool false)]⟩,
 ⟨some 20, none, .mov, [.t 19]⟩,
 ⟨some 21, some (20, true), .fldA 1, [.t 3]⟩,
 ⟨some 22, some (20, true), .load none, [.t 21]⟩,
 ⟨some 23, some (20, true), .mov, [.t 5]⟩,
 ⟨some 24, some (20, true), .bin .geq .scal, [.t 22, .t 23]⟩,
 ⟨some 25, none, .pick, [.t 20, .t 24, .c (.bool false)]⟩,
 ⟨some 26, none, .mov, [.t 25]⟩,
 ⟨some 27, some (26, true), .fldA 1, [.t 3]⟩,
 ⟨some 28, some (26, true), .load none, [.t 27]⟩,
 ⟨some 29, some (26, true), .mov, [.t 6]⟩,
 ⟨some 30, some (26, true), .bin .leq .scal, [.t 28, .t 29]⟩,
 ⟨some 31, none, .pick, [.t 26, .t 30, .c (.bool false)]⟩,
 ⟨some 4, none, .mov, [.t 31]⟩])
 .ret))
theorem i14 : fnInfo Tryz.prog 14 = some (32, [.t 4], ac14) := by kernel_rfl
/-- "crossroads/crossroadsref07.Means": 32 temporaries, 2 parameters, results some [.t 4]. -/
def ac15 : AC :=
 .seq (.reg []
 [⟨some 2, none, .box, [.t 0]⟩,
 ⟨some 3, none, .box, [.t 1]⟩,
 ⟨some 4, none, .mov, [.c (.bool false)]⟩])
 (.seq (.reg []
 [⟨some 8, none, .load (some 6), [.t 2]⟩,
 ⟨some 9, none, .call 41, [.t 8]⟩,
 ⟨some 7, none, .mov, [.t 9]⟩,
 ⟨some 10, none, .ext 0, [.t 7]⟩,
 ⟨some 11, none, .ext 1, [.t 7]⟩,
 ⟨some 5, none, .mov, [.t 10]⟩,
 ⟨some 6, none, .mov, [.t 11]⟩])
 (.seq (.reg []
 [⟨some 12, none, .load (some 6), [.t 2]⟩,
 ⟨some 13, none, .call 12, [.t 12]⟩,
 ⟨some 14, none, .mov, [.t 13]⟩,
 ⟨some 15, some (14, true), .fldA 2, [.t 2]⟩,
 ⟨some 16, some (14, true), .load (some 2), [.t 15]⟩,
 ⟨some 17, some (14, true), .load (some 2), [.t 3]⟩,
 ⟨some 18, some (14, true), .call 42, [.t 16, .t 17]⟩,
 ⟨some 19, none, .pick, [.t 14, .t 18, .c (.bool false)]⟩,
 ⟨some 20, none, .mov, [.t 19]⟩,
 ⟨some 21, some (20, true), .fldA 1, [.t 3]⟩,
 ⟨some 22, some (20, true), .load none, [.t 21]⟩,
 ⟨some 23, some (20, true), .mov, [.t 5]⟩,
 ⟨some 24, some (20, true), .bin .geq .scal, [.t 22, .t 23]⟩,
 ⟨some 25, none, .pick, [.t 20, .t 24, .c (.bool false)]⟩,
 ⟨some 26, none, .mov, [.t 25]⟩,
 ⟨some 27, some (26, true), .fldA 1, [.t 3]⟩,
 ⟨some 28, some (26, true), .load none, [.t 27]⟩,
 ⟨some 29, some (26, true), .mov, [.t 6]⟩,
 ⟨some 30, some (26, true), .bin .leq .scal, [.t 28, .t 29]⟩,
 ⟨some 31, none, .pick, [.t 26, .t 30, .c (.bool false)]⟩,
 ⟨some 4, none, .mov, [.t 31]⟩])
 .ret))
theorem i15 : fnInfo Tryz.prog 15 = some (32, [.t 4], ac15) := by kernel_rfl
def ac18_1 : AC :=
 .seq (.seq (.reg []
 [⟨some 4, none, .mov, [.t 3]⟩,
 ⟨some 5, none, .mov, [.t 0]⟩,
 ⟨some 6, none, .lenL, [.t 5]⟩,
 ⟨some 7, none, .bin .lss .scal, [.t 4, .t 6]⟩])
 (.cond (.t 7)
 .skip
 (.exit 0)))
 (.seq (.block 1 (.seq (.reg [[], [], [0, 1], [2], [3], [4], [5, 4], [6], [7, 6], [8, 6, 6], [9], [9], [10, 11, 9], [12, 9], [13, 9], [9], [9], [16, 9], [15, 17, 9], [18, 9], [19, 9], [14, 20, 9], [9, 21, 6], [6, 22]]
 [⟨some 10, none, .mov, [.t 0]⟩,
 ⟨some 11, none, .mov, [.t 3]⟩,
 ⟨some 12, none, .idxA 6, [.t 10, .t 11]⟩,
 ⟨some 13, none, .load (some 6), [.t 12]⟩,
 ⟨some 14, none, .call 12, [.t 13]⟩,
 ⟨some 15, none, .unNot, [.t 14]⟩,
 ⟨some 16, none, .mov, [.t 15]⟩,
 ⟨some 17, some (16, false), .mov, [.t 3]⟩,
 ⟨some 18, some (16, false), .bin .gtr .scal, [.t 17, .c (.int .i64 0)]⟩,
 ⟨some 19, some (16, false), .mov, [.t 18]⟩,
 ⟨some 20, some (19, true), .mov, [.t 0]⟩,
 ⟨some 21, some (19, true), .mov, [.t 3]⟩,
 ⟨some 22, some (19, true), .idxA 6, [.t 20, .t 21]⟩,
 ⟨some 23, some (19, true), .fldA 0, [.t 22]⟩,
 ⟨some 24, some (19, true), .load none, [.t 23]⟩,
 ⟨some 25, some (19, true), .mov, [.t 0]⟩,
 ⟨some 26, some (19, true), .mov, [.t 3]⟩,
 ⟨some 27, some (19, true), .bin .sub .scal, [.t 26, .c (.int .i64 1)]⟩,
 ⟨some 28, some (19, true), .idxA 6, [.t 25, .t 27]⟩,
 ⟨some 29, some (19, true), .fldA 0, [.t 28]⟩,
 ⟨some 30, some (19, true), .load none, [.t 29]⟩,
 ⟨some 31, some (19, true), .bin .leq .scal, [.t 24, .t 30]⟩,
 ⟨some 32, some (16, false), .pick, [.t 19, .t 31, .c (.bool false)]⟩,
 ⟨some 33, none, .pick, [.t 16, .c (.bool true), .t 32]⟩])
 (.cond (.t 33)
 (.seq (.reg []
 [⟨some 2, none, .mov, [.c (.bool false)]⟩])
 .ret)
 .skip)))
 (.reg []
 [⟨some 8, none, .mov, [.t 3]⟩,
 ⟨some 9, none, .bin .add .scal, [.t 8, .c (.int .i64 1)]⟩,
 ⟨some 3, none, .mov, [.t 9]⟩]))
/-- "crossroads/crossroadsref07.MayAll": 34 temporaries, 1 parameters, results some [.t 2]. -/
def ac18 : AC :=
 .seq (.reg []
 [⟨some 2, none, .mov, [.c (.bool false)]⟩])
 (.seq (.seq (.reg []
 [⟨some 3, none, .mov, [.c (.int .i64 0)]⟩])
 (.block 0 (.loop ac18_1)))
 (.seq (.reg []
 [⟨some 2, none, .mov, [.c (.bool true)]⟩])
 .ret))
theorem i18 : fnInfo Tryz.prog 18 = some (34, [.t 2], ac18) := by kernel_rfl
def ac19_1 : AC :=
 .seq (.seq (.reg []
 [⟨some 6, none, .mov, [.t 4]⟩,
 ⟨some 7, none, .mov, [.t 0]⟩,
 ⟨some 8, none, .lenL, [.t 7]⟩,
 ⟨some 9, none, .bin .lss .scal, [.t 6, .t 8]⟩])
 (.cond (.t 9)
 .skip
 (.exit 0)))
 (.seq (.block 1 (.reg []
 [⟨some 12, none, .mov, [.t 3]⟩,
 ⟨some 13, none, .mov, [.t 0]⟩,
 ⟨some 14, none, .mov, [.t 4]⟩,
 ⟨some 15, none, .idxA 6, [.t 13, .t 14]⟩,
 ⟨some 16, none, .load (some 6), [.t 15]⟩,
 ⟨some 17, none, .call 13, [.t 16]⟩,
 ⟨some 18, none, .bslice 6 34, [.t 17]⟩,
 ⟨some 19, none, .append 6 34 48, [.t 12, .t 18]⟩,
 ⟨some 3, none, .mov, [.t 19]⟩]))
 (.reg []
 [⟨some 10, none, .mov, [.t 4]⟩,
 ⟨some 11, none, .bin .add .scal, [.t 10, .c (.int .i64 1)]⟩,
 ⟨some 4, none, .mov, [.t 11]⟩]))
/-- "crossroads/crossroadslaw07.rows": 21 temporaries, 1 parameters, results some [.t 2]. -/
def ac19 : AC :=
 .seq (.reg []
 [⟨some 2, none, .mov, [.c .nils]⟩])
 (.seq (.reg []
 [⟨some 5, none, .bslice 6 34, []⟩,
 ⟨some 3, none, .mov, [.t 5]⟩])
 (.seq (.seq (.reg []
 [⟨some 4, none, .mov, [.c (.int .i64 0)]⟩])
 (.block 0 (.loop ac19_1)))
 (.seq (.reg []
 [⟨some 20, none, .mov, [.t 3]⟩,
 ⟨some 2, none, .mov, [.t 20]⟩])
 .ret)))
theorem i19 : fnInfo Tryz.prog 19 = some (21, [.t 2], ac19) := by kernel_rfl
def ac20_1 : AC :=
 .seq (.reg []
 [⟨some 9, none, .bin .lss .scal, [.t 8, .t 7]⟩])
 (.seq (.cond (.t 9)
 .skip
 (.exit 0))
 (.seq (.block 1 (.seq (.reg []
 [⟨some 10, none, .mov, [.t 8]⟩,
 ⟨some 11, none, .idxA 6, [.t 6, .t 8]⟩,
 ⟨some 12, none, .load (some 6), [.t 11]⟩,
 ⟨some 5, none, .alloc [.int .i64 0, .bool false, .int .u32 0, .int .i64 0, .int .i64 0, .int .i64 0], []⟩,
 ⟨some 4, none, .mov, [.t 10]⟩,
 ⟨none, none, .store 6, [.t 5, .t 12]⟩])
 (.seq (.reg []
 [⟨some 13, none, .mov, [.t 0]⟩,
 ⟨some 14, none, .mov, [.t 4]⟩,
 ⟨some 15, none, .slice 6 false true, [.t 13, .t 14]⟩,
 ⟨some 16, none, .mkfn 49 0, [.t 5]⟩,
 ⟨some 17, none, .call 48, [.t 15, .t 16]⟩])
 (.cond (.t 17)
 (.reg []
 [⟨some 18, none, .mov, [.t 3]⟩,
 ⟨some 19, none, .fldA 0, [.t 5]⟩,
 ⟨some 20, none, .load none, [.t 19]⟩,
 ⟨some 21, none, .bslice 1 3, [.t 20]⟩,
 ⟨some 22, none, .append 1 3 8, [.t 18, .t 21]⟩,
 ⟨some 3, none, .mov, [.t 22]⟩])
 .skip))))
 (.reg []
 [⟨some 23, none, .bin .add .scal, [.t 8, .c (.int .i64 1)]⟩,
 ⟨some 8, none, .mov, [.t 23]⟩])))
/-- "crossroads/plist.Idle": 25 temporaries, 1 parameters, results some [.t 2]. -/
def ac20 : AC :=
 .seq (.reg []
 [⟨some 2, none, .mov, [.c .nils]⟩])
 (.seq (.reg []
 [⟨some 3, none, .mov, [.c .nils]⟩])
 (.seq (.seq (.reg []
 [⟨some 6, none, .mov, [.t 0]⟩,
 ⟨some 7, none, .lenL, [.t 6]⟩,
 ⟨some 8, none, .mov, [.c (.int .i64 0)]⟩])
 (.block 0 (.loop ac20_1)))
 (.seq (.reg []
 [⟨some 24, none, .mov, [.t 3]⟩,
 ⟨some 2, none, .mov, [.t 24]⟩])
 .ret)))
theorem i20 : fnInfo Tryz.prog 20 = some (25, [.t 2], ac20) := by kernel_rfl
/-- "crossroads/plist.Drop": 18 temporaries, 2 parameters, results some [.t 4, .t 5]. -/
def ac21 : AC :=
 .seq (.reg []
 [⟨some 3, none, .box, [.t 1]⟩,
 ⟨some 4, none, .mov, [.c .nils]⟩,
 ⟨some 5, none, .mov, [.c (.int .i64 0)]⟩])
 (.seq (.reg []
 [⟨some 7, none, .mov, [.t 0]⟩,
 ⟨some 8, none, .mkfn 52 0, [.t 3]⟩,
 ⟨some 9, none, .call 51, [.t 7, .t 8]⟩,
 ⟨some 6, none, .mov, [.t 9]⟩])
 (.seq (.seq (.reg []
 [⟨some 10, none, .mov, [.t 6]⟩,
 ⟨some 11, none, .bin .lss .scal, [.t 10, .c (.int .i64 0)]⟩])
 (.cond (.t 11)
 (.seq (.reg []
 [⟨some 4, none, .mov, [.c .nils]⟩,
 ⟨some 5, none, .mov, [.c (.int .i64 6)]⟩])
 .ret)
 .skip))
 (.seq (.reg []
 [⟨some 12, none, .mov, [.t 0]⟩,
 ⟨some 13, none, .call 54, [.t 12]⟩,
 ⟨some 14, none, .mov, [.t 6]⟩,
 ⟨some 15, none, .mov, [.t 6]⟩,
 ⟨some 16, none, .bin .add .scal, [.t 15, .c (.int .i64 1)]⟩,
 ⟨some 17, none, .call 53, [.t 13, .t 14, .t 16]⟩,
 ⟨some 4, none, .mov, [.t 17]⟩,
 ⟨some 5, none, .mov, [.c (.int .i64 0)]⟩])
 .ret)))
theorem i21 : fnInfo Tryz.prog 21 = some (18, [.t 4, .t 5], ac21) := by kernel_rfl
/-- "crossroads/plist.Eval": 22 temporaries, 2 parameters, results some [.t 4, .t 5]. -/
def ac22 : AC :=
 .seq (.reg []
 [⟨some 3, none, .box, [.t 1]⟩,
 ⟨some 4, none, .mov, [.c (.bool false)]⟩,
 ⟨some 5, none, .mov, [.c (.int .i64 0)]⟩])
 (.seq (.reg []
 [⟨some 7, none, .mov, [.t 0]⟩,
 ⟨some 8, none, .mkfn 55 0, [.t 3]⟩,
 ⟨some 9, none, .call 51, [.t 7, .t 8]⟩,
 ⟨some 6, none, .mov, [.t 9]⟩])
 (.seq (.seq (.reg []
 [⟨some 10, none, .mov, [.t 6]⟩,
 ⟨some 11, none, .bin .lss .scal, [.t 10, .c (.int .i64 0)]⟩])
 (.cond (.t 11)
 (.seq (.reg []
 [⟨some 4, none, .mov, [.c (.bool false)]⟩,
 ⟨some 5, none, .mov, [.c (.int .i64 0)]⟩])
 .ret)
 .skip))
 (.seq (.reg [[], [], [0, 1], [2], [3], [], [], [5, 6], [7], [8], [4, 0, 1, 2, 3, 4], [9, 10, 0, 1, 2, 3, 4, 5, 6, 7, 8, 9, 10]]
 [⟨some 12, none, .mov, [.t 0]⟩,
 ⟨some 13, none, .mov, [.t 6]⟩,
 ⟨some 14, none, .idxA 6, [.t 12, .t 13]⟩,
 ⟨some 15, none, .fldA 1, [.t 14]⟩,
 ⟨some 16, none, .load none, [.t 15]⟩,
 ⟨some 17, none, .mov, [.t 0]⟩,
 ⟨some 18, none, .mov, [.t 6]⟩,
 ⟨some 19, none, .idxA 6, [.t 17, .t 18]⟩,
 ⟨some 20, none, .fldA 0, [.t 19]⟩,
 ⟨some 21, none, .load none, [.t 20]⟩,
 ⟨some 4, none, .mov, [.t 16]⟩,
 ⟨some 5, none, .mov, [.t 21]⟩])
 .ret)))
theorem i22 : fnInfo Tryz.prog 22 = some (22, [.t 4, .t 5], ac22) := by kernel_rfl
/-- "crossroads/plist.Add": 30 temporaries, 2 parameters, results some [.t 4, .t 5]. -/
def ac23 : AC :=
 .seq (.reg []
 [⟨some 3, none, .box, [.t 1]⟩,
 ⟨some 4, none, .mov, [.c .nils]⟩,
 ⟨some 5, none, .mov, [.c (.int .i64 0)]⟩])
 (.seq (.seq (.reg []
 [⟨some 8, none, .load (some 6), [.t 3]⟩,
 ⟨some 9, none, .call 10, [.t 8]⟩,
 ⟨some 10, none, .unNot, [.t 9]⟩])
 (.cond (.t 10)
 (.seq (.reg []
 [⟨some 4, none, .mov, [.c .nils]⟩,
 ⟨some 5, none, .mov, [.c (.int .i64 1)]⟩])
 .ret)
 .skip))
 (.seq (.reg []
 [⟨some 12, none, .mov, [.t 0]⟩,
 ⟨some 13, none, .fldA 0, [.t 3]⟩,
 ⟨some 14, none, .load none, [.t 13]⟩,
 ⟨some 15, none, .call 56, [.t 12, .t 14]⟩,
 ⟨some 11, none, .mov, [.t 15]⟩,
 ⟨some 16, none, .ext 0, [.t 11]⟩,
 ⟨some 17, none, .ext 1, [.t 11]⟩,
 ⟨some 6, none, .mov, [.t 16]⟩,
 ⟨some 7, none, .mov, [.t 17]⟩])
 (.seq (.block 0 (.seq (.reg []
 [⟨some 19, none, .mov, [.t 7]⟩,
 ⟨some 18, none, .mov, [.t 19]⟩])
 (.cond (.t 18)
 (.seq (.reg []
 [⟨some 4, none, .mov, [.c .nils]⟩,
 ⟨some 5, none, .mov, [.c (.int .i64 7)]⟩])
 .ret)
 (.seq (.reg []
 [⟨some 21, none, .mov, [.t 0]⟩,
 ⟨some 22, none, .lenL, [.t 21]⟩,
 ⟨some 23, none, .bin .geq .scal, [.t 22, .c (.int .i64 200)]⟩,
 ⟨some 20, none, .mov, [.t 23]⟩])
 (.cond (.t 20)
 (.seq (.reg []
 [⟨some 4, none, .mov, [.c .nils]⟩,
 ⟨some 5, none, .mov, [.c (.int .i64 8)]⟩])
 .ret)
 .skip)))))
 (.seq (.reg [[], [0], [], [], [3], [1, 2, 4, 1], [5, 5, 0, 1, 2, 3, 4, 5], [6, 0, 1, 2, 3, 4, 5, 6]]
 [⟨some 24, none, .mov, [.t 0]⟩,
 ⟨some 25, none, .call 54, [.t 24]⟩,
 ⟨some 26, none, .mov, [.t 6]⟩,
 ⟨some 27, none, .load (some 6), [.t 3]⟩,
 ⟨some 28, none, .bslice 6 26, [.t 27]⟩,
 ⟨some 29, none, .call 57, [.t 25, .t 26, .t 28]⟩,
 ⟨some 4, none, .mov, [.t 29]⟩,
 ⟨some 5, none, .mov, [.c (.int .i64 0)]⟩])
 .ret))))
theorem i23 : fnInfo Tryz.prog 23 = some (30, [.t 4, .t 5], ac23) := by kernel_rfl
def ac24_1 : AC :=
 .seq (.seq (.reg []
 [⟨some 11, none, .mov, [.t 5]⟩,
 ⟨some 12, none, .mov, [.t 0]⟩,
 ⟨some 13, none, .lenL, [.t 12]⟩,
 ⟨some 14, none, .bin .lss .scal, [.t 11, .t 13]⟩])
 (.cond (.t 14)
 .skip
 (.exit 0)))
 (.seq (.block 1 (.seq (.reg [[], [], [0, 1], [2], [], [], [4, 5], [6], [3, 7]]
 [⟨some 17, none, .mov, [.t 0]⟩,
 ⟨some 18, none, .mov, [.t 5]⟩,
 ⟨some 19, none, .idxA 6, [.t 17, .t 18]⟩,
 ⟨some 20, none, .load (some 6), [.t 19]⟩,
 ⟨some 21, none, .mov, [.t 1]⟩,
 ⟨some 22, none, .mov, [.t 5]⟩,
 ⟨some 23, none, .idxA 6, [.t 21, .t 22]⟩,
 ⟨some 24, none, .load (some 6), [.t 23]⟩,
 ⟨some 25, none, .bin .neq (.flat [.int .i64, .bool, .int .u32, .int .i64, .int .i64, .int .i64]), [.t 20, .t 24]⟩])
 (.cond (.t 25)
 (.seq (.reg []
 [⟨some 4, none, .mov, [.c (.bool false)]⟩])
 .ret)
 .skip)))
 (.reg []
 [⟨some 15, none, .mov, [.t 5]⟩,
 ⟨some 16, none, .bin .add .scal, [.t 15, .c (.int .i64 1)]⟩,
 ⟨some 5, none, .mov, [.t 16]⟩]))
/-- "crossroads/crossroadsref07.Same": 26 temporaries, 2 parameters, results some [.t 4]. -/
def ac24 : AC :=
 .seq (.reg []
 [⟨some 4, none, .mov, [.c (.bool false)]⟩])
 (.seq (.seq (.reg []
 [⟨some 6, none, .mov, [.t 0]⟩,
 ⟨some 7, none, .lenL, [.t 6]⟩,
 ⟨some 8, none, .mov, [.t 1]⟩,
 ⟨some 9, none, .lenL, [.t 8]⟩,
 ⟨some 10, none, .bin .neq .scal, [.t 7, .t 9]⟩])
 (.cond (.t 10)
 (.seq (.reg []
 [⟨some 4, none, .mov, [.c (.bool false)]⟩])
 .ret)
 .skip))
 (.seq (.seq (.reg []
 [⟨some 5, none, .mov, [.c (.int .i64 0)]⟩])
 (.block 0 (.loop ac24_1)))
 (.seq (.reg []
 [⟨some 4, none, .mov, [.c (.bool true)]⟩])
 .ret)))
theorem i24 : fnInfo Tryz.prog 24 = some (26, [.t 4], ac24) := by kernel_rfl
def ac25_1 : AC :=
 .seq (.seq (.reg []
 [⟨some 27, none, .mov, [.t 10]⟩,
 ⟨some 28, none, .mov, [.t 0]⟩,
 ⟨some 29, none, .lenL, [.t 28]⟩,
 ⟨some 30, none, .bin .lss .scal, [.t 27, .t 29]⟩])
 (.cond (.t 30)
 .skip
 (.exit 0)))
 (.seq (.block 1 (.seq (.seq (.reg [[], [0], [1], [2], [2], [3, 4, 2], [5, 2], [6, 2], [2], [8, 2], [7, 9, 2], [2, 10]]
 [⟨some 33, none, .mov, [.t 9]⟩,
 ⟨some 34, none, .unNot, [.t 33]⟩,
 ⟨some 35, none, .mov, [.t 34]⟩,
 ⟨some 36, some (35, true), .mov, [.t 0]⟩,
 ⟨some 37, some (35, true), .mov, [.t 10]⟩,
 ⟨some 38, some (35, true), .idxA 6, [.t 36, .t 37]⟩,
 ⟨some 39, some (35, true), .fldA 0, [.t 38]⟩,
 ⟨some 40, some (35, true), .load none, [.t 39]⟩,
 ⟨some 41, some (35, true), .fldA 0, [.t 3]⟩,
 ⟨some 42, some (35, true), .load none, [.t 41]⟩,
 ⟨some 43, some (35, true), .bin .gtr .scal, [.t 40, .t 42]⟩,
 ⟨some 44, none, .pick, [.t 35, .t 43, .c (.bool false)]⟩])
 (.cond (.t 44)
 (.seq (.reg []
 [⟨some 45, none, .mov, [.t 8]⟩,
 ⟨some 46, none, .load (some 6), [.t 3]⟩,
 ⟨some 47, none, .bslice 6 34, [.t 46]⟩,
 ⟨some 48, none, .append 6 34 48, [.t 45, .t 47]⟩,
 ⟨some 8, none, .mov, [.t 48]⟩])
 (.reg []
 [⟨some 9, none, .mov, [.c (.bool true)]⟩]))
 .skip))
 (.reg []
 [⟨some 49, none, .mov, [.t 8]⟩,
 ⟨some 50, none, .mov, [.t 0]⟩,
 ⟨some 51, none, .mov, [.t 10]⟩,
 ⟨some 52, none, .idxA 6, [.t 50, .t 51]⟩,
 ⟨some 53, none, .load (some 6), [.t 52]⟩,
 ⟨some 54, none, .bslice 6 34, [.t 53]⟩,
 ⟨some 55, none, .append 6 34 48, [.t 49, .t 54]⟩,
 ⟨some 8, none, .mov, [.t 55]⟩])))
 (.reg []
 [⟨some 31, none, .mov, [.t 10]⟩,
 ⟨some 32, none, .bin .add .scal, [.t 31, .c (.int .i64 1)]⟩,
 ⟨some 10, none, .mov, [.t 32]⟩]))
/-- "crossroads/crossroadsref07.Add": 63 temporaries, 2 parameters, results some [.t 4, .t 5]. -/
def ac25 : AC :=
 .seq (.reg []
 [⟨some 3, none, .box, [.t 1]⟩,
 ⟨some 4, none, .mov, [.c .nils]⟩,
 ⟨some 5, none, .mov, [.c (.int .i64 0)]⟩])
 (.seq (.seq (.reg []
 [⟨some 11, none, .load (some 6), [.t 3]⟩,
 ⟨some 12, none, .call 12, [.t 11]⟩,
 ⟨some 13, none, .unNot, [.t 12]⟩])
 (.cond (.t 13)
 (.seq (.reg []
 [⟨some 4, none, .mov, [.c .nils]⟩,
 ⟨some 5, none, .mov, [.c (.int .i64 1)]⟩])
 .ret)
 .skip))
 (.seq (.reg []
 [⟨some 15, none, .mov, [.t 0]⟩,
 ⟨some 16, none, .fldA 0, [.t 3]⟩,
 ⟨some 17, none, .load none, [.t 16]⟩,
 ⟨some 18, none, .call 26, [.t 15, .t 17]⟩,
 ⟨some 14, none, .mov, [.t 18]⟩,
 ⟨some 19, none, .ext 0, [.t 14]⟩,
 ⟨some 20, none, .ext 1, [.t 14]⟩,
 ⟨some 6, none, .mov, [.t 19]⟩,
 ⟨some 7, none, .mov, [.t 20]⟩])
 (.seq (.seq (.reg []
 [⟨some 21, none, .mov, [.t 7]⟩,
 ⟨some 22, none, .bin .eql .scal, [.t 21, .c (.int .i64 0)]⟩])
 (.cond (.t 22)
 (.seq (.reg []
 [⟨some 4, none, .mov, [.c .nils]⟩,
 ⟨some 5, none, .mov, [.c (.int .i64 7)]⟩])
 .ret)
 .skip))
 (.seq (.seq (.reg []
 [⟨some 23, none, .mov, [.t 0]⟩,
 ⟨some 24, none, .lenL, [.t 23]⟩,
 ⟨some 25, none, .bin .geq .scal, [.t 24, .c (.int .i64 200)]⟩])
 (.cond (.t 25)
 (.seq (.reg []
 [⟨some 4, none, .mov, [.c .nils]⟩,
 ⟨some 5, none, .mov, [.c (.int .i64 8)]⟩])
 .ret)
 .skip))
 (.seq (.reg []
 [⟨some 26, none, .bslice 6 34, []⟩,
 ⟨some 8, none, .mov, [.t 26]⟩])
 (.seq (.reg []
 [⟨some 9, none, .mov, [.c (.bool false)]⟩])
 (.seq (.seq (.reg []
 [⟨some 10, none, .mov, [.c (.int .i64 0)]⟩])
 (.block 0 (.loop ac25_1)))
 (.seq (.seq (.reg []
 [⟨some 56, none, .mov, [.t 9]⟩,
 ⟨some 57, none, .unNot, [.t 56]⟩])
 (.cond (.t 57)
 (.reg []
 [⟨some 58, none, .mov, [.t 8]⟩,
 ⟨some 59, none, .load (some 6), [.t 3]⟩,
 ⟨some 60, none, .bslice 6 34, [.t 59]⟩,
 ⟨some 61, none, .append 6 34 48, [.t 58, .t 60]⟩,
 ⟨some 8, none, .mov, [.t 61]⟩])
 .skip))
 (.seq (.reg []
 [⟨some 62, none, .mov, [.t 8]⟩,
 ⟨some 4, none, .mov, [.t 62]⟩,
 ⟨some 5, none, .mov, [.c (.int .i64 0)]⟩])
 .ret)))))))))
theorem i25 : fnInfo Tryz.prog 25 = some (63, [.t 4, .t 5], ac25) := by kernel_rfl
def ac26_1 : AC :=
 .seq (.seq (.reg []
 [⟨some 9, none, .mov, [.t 7]⟩,
 ⟨some 10, none, .mov, [.t 0]⟩,
 ⟨some 11, none, .lenL, [.t 10]⟩,
 ⟨some 12, none, .bin .lss .scal, [.t 9, .t 11]⟩])
 (.cond (.t 12)
 .skip
 (.exit 0)))
 (.seq (.block 1 (.seq (.reg []
 [⟨some 15, none, .mov, [.t 0]⟩,
 ⟨some 16, none, .mov, [.t 7]⟩,
 ⟨some 17, none, .idxA 6, [.t 15, .t 16]⟩,
 ⟨some 18, none, .fldA 0, [.t 17]⟩,
 ⟨some 19, none, .load none, [.t 18]⟩,
 ⟨some 20, none, .mov, [.t 1]⟩,
 ⟨some 21, none, .bin .neq .scal, [.t 19, .t 20]⟩])
 (.cond (.t 21)
 (.reg []
 [⟨some 22, none, .mov, [.t 6]⟩,
 ⟨some 23, none, .mov, [.t 0]⟩,
 ⟨some 24, none, .mov, [.t 7]⟩,
 ⟨some 25, none, .idxA 6, [.t 23, .t 24]⟩,
 ⟨some 26, none, .load (some 6), [.t 25]⟩,
 ⟨some 27, none, .bslice 6 34, [.t 26]⟩,
 ⟨some 28, none, .append 6 34 48, [.t 22, .t 27]⟩,
 ⟨some 6, none, .mov, [.t 28]⟩])
 .skip)))
 (.reg []
 [⟨some 13, none, .mov, [.t 7]⟩,
 ⟨some 14, none, .bin .add .scal, [.t 13, .c (.int .i64 1)]⟩,
 ⟨some 7, none, .mov, [.t 14]⟩]))
/-- "crossroads/crossroadsref07.Drop": 35 temporaries, 2 parameters, results some [.t 4, .t 5]. -/
def ac26 : AC :=
 .seq (.reg []
 [⟨some 4, none, .mov, [.c .nils]⟩,
 ⟨some 5, none, .mov, [.c (.int .i64 0)]⟩])
 (.seq (.reg []
 [⟨some 8, none, .bslice 6 34, []⟩,
 ⟨some 6, none, .mov, [.t 8]⟩])
 (.seq (.seq (.reg []
 [⟨some 7, none, .mov, [.c (.int .i64 0)]⟩])
 (.block 0 (.loop ac26_1)))
 (.seq (.seq (.reg []
 [⟨some 29, none, .mov, [.t 6]⟩,
 ⟨some 30, none, .lenL, [.t 29]⟩,
 ⟨some 31, none, .mov, [.t 0]⟩,
 ⟨some 32, none, .lenL, [.t 31]⟩,
 ⟨some 33, none, .bin .eql .scal, [.t 30, .t 32]⟩])
 (.cond (.t 33)
 (.seq (.reg []
 [⟨some 4, none, .mov, [.c .nils]⟩,
 ⟨some 5, none, .mov, [.c (.int .i64 6)]⟩])
 .ret)
 .skip))
 (.seq (.reg []
 [⟨some 34, none, .mov, [.t 6]⟩,
 ⟨some 4, none, .mov, [.t 34]⟩,
 ⟨some 5, none, .mov, [.c (.int .i64 0)]⟩])
 .ret))))
theorem i26 : fnInfo Tryz.prog 26 = some (35, [.t 4, .t 5], ac26) := by kernel_rfl
def ac27_1 : AC :=
 .seq (.seq (.reg []
 [⟨some 7, none, .mov, [.t 6]⟩,
 ⟨some 8, none, .mov, [.t 0]⟩,
 ⟨some 9, none, .lenL, [.t 8]⟩,
 ⟨some 10, none, .bin .lss .scal, [.t 7, .t 9]⟩])
 (.cond (.t 10)
 .skip
 (.exit 0)))
 (.seq (.block 1 (.seq (.reg [[], [], [0, 1], [2], [], [3, 4]]
 [⟨some 13, none, .mov, [.t 0]⟩,
 ⟨some 14, none, .mov, [.t 6]⟩,
 ⟨some 15, none, .idxA 6, [.t 13, .t 14]⟩,
 ⟨some 16, none, .load (some 6), [.t 15]⟩,
 ⟨some 17, none, .load (some 2), [.t 3]⟩,
 ⟨some 18, none, .call 15, [.t 16, .t 17]⟩])
 (.cond (.t 18)
 (.seq (.reg [[], [], [0, 1], [2], [3], [], [], [5, 6], [7], [8], [4, 0, 1, 2, 3, 4], [9, 10, 0, 1, 2, 3, 4, 5, 6, 7, 8, 9, 10]]
 [⟨some 19, none, .mov, [.t 0]⟩,
 ⟨some 20, none, .mov, [.t 6]⟩,
 ⟨some 21, none, .idxA 6, [.t 19, .t 20]⟩,
 ⟨some 22, none, .fldA 1, [.t 21]⟩,
 ⟨some 23, none, .load none, [.t 22]⟩,
 ⟨some 24, none, .mov, [.t 0]⟩,
 ⟨some 25, none, .mov, [.t 6]⟩,
 ⟨some 26, none, .idxA 6, [.t 24, .t 25]⟩,
 ⟨some 27, none, .fldA 0, [.t 26]⟩,
 ⟨some 28, none, .load none, [.t 27]⟩,
 ⟨some 4, none, .mov, [.t 23]⟩,
 ⟨some 5, none, .mov, [.t 28]⟩])
 .ret)
 .skip)))
 (.reg []
 [⟨some 11, none, .mov, [.t 6]⟩,
 ⟨some 12, none, .bin .add .scal, [.t 11, .c (.int .i64 1)]⟩,
 ⟨some 6, none, .mov, [.t 12]⟩]))
/-- "crossroads/crossroadsref07.Eval": 29 temporaries, 2 parameters, results some [.t 4, .t 5]. -/
def ac27 : AC :=
 .seq (.reg []
 [⟨some 3, none, .box, [.t 1]⟩,
 ⟨some 4, none, .mov, [.c (.bool false)]⟩,
 ⟨some 5, none, .mov, [.c (.int .i64 0)]⟩])
 (.seq (.seq (.reg []
 [⟨some 6, none, .mov, [.c (.int .i64 0)]⟩])
 (.block 0 (.loop ac27_1)))
 (.seq (.reg []
 [⟨some 4, none, .mov, [.c (.bool false)]⟩,
 ⟨some 5, none, .mov, [.c (.int .i64 0)]⟩])
 .ret))
theorem i27 : fnInfo Tryz.prog 27 = some (29, [.t 4, .t 5], ac27) := by kernel_rfl
def ac28_1 : AC :=
 .seq (.seq (.reg []
 [⟨some 11, none, .mov, [.t 5]⟩,
 ⟨some 12, none, .mov, [.t 0]⟩,
 ⟨some 13, none, .lenL, [.t 12]⟩,
 ⟨some 14, none, .bin .lss .scal, [.t 11, .t 13]⟩])
 (.cond (.t 14)
 .skip
 (.exit 0)))
 (.seq (.block 1 (.seq (.reg [[], [], [0, 1], [2], [], [], [4, 5], [6], [3, 7]]
 [⟨some 17, none, .mov, [.t 0]⟩,
 ⟨some 18, none, .mov, [.t 5]⟩,
 ⟨some 19, none, .idxA 1, [.t 17, .t 18]⟩,
 ⟨some 20, none, .load none, [.t 19]⟩,
 ⟨some 21, none, .mov, [.t 1]⟩,
 ⟨some 22, none, .mov, [.t 5]⟩,
 ⟨some 23, none, .idxA 1, [.t 21, .t 22]⟩,
 ⟨some 24, none, .load none, [.t 23]⟩,
 ⟨some 25, none, .bin .neq .scal, [.t 20, .t 24]⟩])
 (.cond (.t 25)
 (.seq (.reg []
 [⟨some 4, none, .mov, [.c (.bool false)]⟩])
 .ret)
 .skip)))
 (.reg []
 [⟨some 15, none, .mov, [.t 5]⟩,
 ⟨some 16, none, .bin .add .scal, [.t 15, .c (.int .i64 1)]⟩,
 ⟨some 5, none, .mov, [.t 16]⟩]))
/-- "crossroads/crossroadsref05.Ints": 26 temporaries, 2 parameters, results some [.t 4]. -/
def ac28 : AC :=
 .seq (.reg []
 [⟨some 4, none, .mov, [.c (.bool false)]⟩])
 (.seq (.seq (.reg []
 [⟨some 6, none, .mov, [.t 0]⟩,
 ⟨some 7, none, .lenL, [.t 6]⟩,
 ⟨some 8, none, .mov, [.t 1]⟩,
 ⟨some 9, none, .lenL, [.t 8]⟩,
 ⟨some 10, none, .bin .neq .scal, [.t 7, .t 9]⟩])
 (.cond (.t 10)
 (.seq (.reg []
 [⟨some 4, none, .mov, [.c (.bool false)]⟩])
 .ret)
 .skip))
 (.seq (.seq (.reg []
 [⟨some 5, none, .mov, [.c (.int .i64 0)]⟩])
 (.block 0 (.loop ac28_1)))
 (.seq (.reg []
 [⟨some 4, none, .mov, [.c (.bool true)]⟩])
 .ret)))
theorem i28 : fnInfo Tryz.prog 28 = some (26, [.t 4], ac28) := by kernel_rfl
def ac29_1 : AC :=
 .seq (.seq (.reg []
 [⟨some 26, none, .mov, [.t 8]⟩,
 ⟨some 27, none, .mov, [.t 4]⟩,
 ⟨some 28, none, .bin .lss .scal, [.t 26, .t 27]⟩])
 (.cond (.t 28)
 .skip
 (.exit 2)))
 (.seq (.block 3 (.seq (.reg []
 [⟨some 32, none, .mov, [.t 0]⟩,
 ⟨some 33, none, .mov, [.t 8]⟩,
 ⟨some 34, none, .idxA 6, [.t 32, .t 33]⟩,
 ⟨some 35, none, .load (some 6), [.t 34]⟩,
 ⟨some 36, none, .call 41, [.t 35]⟩,
 ⟨some 31, none, .mov, [.t 36]⟩,
 ⟨some 37, none, .ext 0, [.t 31]⟩,
 ⟨some 38, none, .ext 1, [.t 31]⟩,
 ⟨some 9, none, .mov, [.t 37]⟩,
 ⟨some 10, none, .mov, [.t 38]⟩])
 (.reg [[], [0], [1], [1], [2, 3, 1], [4, 1], [5, 1], [1], [1], [7, 8, 1], [9, 1], [10, 1], [6, 11, 1, 1], [12, 12, 1], [13], [13], [14, 15, 13], [13, 16, 1], [17, 13, 1], [18], [18], [19, 20, 18], [18, 21, 1], [1, 22], [23, 18, 0, 1, 2, 3, 4, 5, 6, 7, 8, 9, 10, 11, 12, 13, 14, 15, 16, 17, 18, 19, 20, 21, 22, 23]]
 [⟨some 39, none, .mov, [.t 7]⟩,
 ⟨some 40, none, .mov, [.t 39]⟩,
 ⟨some 41, some (40, false), .mov, [.t 0]⟩,
 ⟨some 42, some (40, false), .mov, [.t 8]⟩,
 ⟨some 43, some (40, false), .idxA 6, [.t 41, .t 42]⟩,
 ⟨some 44, some (40, false), .fldA 2, [.t 43]⟩,
 ⟨some 45, some (40, false), .load (some 2), [.t 44]⟩,
 ⟨some 46, some (40, false), .mov, [.t 0]⟩,
 ⟨some 47, some (40, false), .mov, [.t 4]⟩,
 ⟨some 48, some (40, false), .idxA 6, [.t 46, .t 47]⟩,
 ⟨some 49, some (40, false), .fldA 2, [.t 48]⟩,
 ⟨some 50, some (40, false), .load (some 2), [.t 49]⟩,
 ⟨some 51, some (40, false), .call 42, [.t 45, .t 50]⟩,
 ⟨some 52, some (40, false), .mov, [.t 51]⟩,
 ⟨some 53, some (52, true), .mov, [.t 9]⟩,
 ⟨some 54, some (52, true), .mov, [.t 5]⟩,
 ⟨some 55, some (52, true), .bin .leq .scal, [.t 53, .t 54]⟩,
 ⟨some 56, some (40, false), .pick, [.t 52, .t 55, .c (.bool false)]⟩,
 ⟨some 57, some (40, false), .mov, [.t 56]⟩,
 ⟨some 58, some (57, true), .mov, [.t 10]⟩,
 ⟨some 59, some (57, true), .mov, [.t 6]⟩,
 ⟨some 60, some (57, true), .bin .geq .scal, [.t 58, .t 59]⟩,
 ⟨some 61, some (40, false), .pick, [.t 57, .t 60, .c (.bool false)]⟩,
 ⟨some 62, none, .pick, [.t 40, .c (.bool true), .t 61]⟩,
 ⟨some 7, none, .mov, [.t 62]⟩])))
 (.reg []
 [⟨some 29, none, .mov, [.t 8]⟩,
 ⟨some 30, none, .bin .add .scal, [.t 29, .c (.int .i64 1)]⟩,
 ⟨some 8, none, .mov, [.t 30]⟩]))
def ac29_2 : AC :=
 .seq (.seq (.reg []
 [⟨some 12, none, .mov, [.t 4]⟩,
 ⟨some 13, none, .mov, [.t 0]⟩,
 ⟨some 14, none, .lenL, [.t 13]⟩,
 ⟨some 15, none, .bin .lss .scal, [.t 12, .t 14]⟩])
 (.cond (.t 15)
 .skip
 (.exit 0)))
 (.seq (.block 1 (.seq (.reg []
 [⟨some 19, none, .mov, [.t 0]⟩,
 ⟨some 20, none, .mov, [.t 4]⟩,
 ⟨some 21, none, .idxA 6, [.t 19, .t 20]⟩,
 ⟨some 22, none, .load (some 6), [.t 21]⟩,
 ⟨some 23, none, .call 41, [.t 22]⟩,
 ⟨some 18, none, .mov, [.t 23]⟩,
 ⟨some 24, none, .ext 0, [.t 18]⟩,
 ⟨some 25, none, .ext 1, [.t 18]⟩,
 ⟨some 5, none, .mov, [.t 24]⟩,
 ⟨some 6, none, .mov, [.t 25]⟩])
 (.seq (.reg []
 [⟨some 7, none, .mov, [.c (.bool false)]⟩])
 (.seq (.seq (.reg []
 [⟨some 8, none, .mov, [.c (.int .i64 0)]⟩])
 (.block 2 (.loop ac29_1)))
 (.seq (.reg []
 [⟨some 63, none, .mov, [.t 7]⟩])
 (.cond (.t 63)
 (.reg []
 [⟨some 64, none, .mov, [.t 3]⟩,
 ⟨some 65, none, .mov, [.t 0]⟩,
 ⟨some 66, none, .mov, [.t 4]⟩,
 ⟨some 67, none, .idxA 6, [.t 65, .t 66]⟩,
 ⟨some 68, none, .fldA 0, [.t 67]⟩,
 ⟨some 69, none, .load none, [.t 68]⟩,
 ⟨some 70, none, .bslice 1 3, [.t 69]⟩,
 ⟨some 71, none, .append 1 3 8, [.t 64, .t 70]⟩,
 ⟨some 3, none, .mov, [.t 71]⟩])
 .skip))))))
 (.reg []
 [⟨some 16, none, .mov, [.t 4]⟩,
 ⟨some 17, none, .bin .add .scal, [.t 16, .c (.int .i64 1)]⟩,
 ⟨some 4, none, .mov, [.t 17]⟩]))
/-- "crossroads/crossroadsref07.Idle": 73 temporaries, 1 parameters, results some [.t 2]. -/
def ac29 : AC :=
 .seq (.reg []
 [⟨some 2, none, .mov, [.c .nils]⟩])
 (.seq (.reg []
 [⟨some 11, none, .bslice 1 3, []⟩,
 ⟨some 3, none, .mov, [.t 11]⟩])
 (.seq (.seq (.reg []
 [⟨some 4, none, .mov, [.c (.int .i64 0)]⟩])
 (.block 0 (.loop ac29_2)))
 (.seq (.reg []
 [⟨some 72, none, .mov, [.t 3]⟩,
 ⟨some 2, none, .mov, [.t 72]⟩])
 .ret)))
theorem i29 : fnInfo Tryz.prog 29 = some (73, [.t 2], ac29) := by kernel_rfl
/-- "crossroads/plist.number": 28 temporaries, 1 parameters, results some [.t 2]. -/
def ac31 : AC :=
 .seq (.reg []
 [⟨some 2, none, .mov, [.c (.int .i64 0)]⟩])
 (.seq (.seq (.reg []
 [⟨some 5, none, .mov, [.t 0]⟩,
 ⟨some 6, none, .bin .eql .scal, [.t 5, .c (.str (bstr []))]⟩,
 ⟨some 7, none, .mov, [.t 6]⟩,
 ⟨some 8, some (7, false), .mov, [.t 0]⟩,
 ⟨some 9, some (7, false), .lenS, [.t 8]⟩,
 ⟨some 10, some (7, false), .bin .gtr .scal, [.t 9, .c (.int .i64 5)]⟩,
 ⟨some 11, none, .pick, [.t 7, .c (.bool true), .t 10]⟩,
 ⟨some 12, none, .mov, [.t 11]⟩,
 ⟨some 13, some (12, false), .mov, [.t 0]⟩,
 ⟨some 14, some (12, false), .idxS, [.t 13, .c (.int .i64 0)]⟩,
 ⟨some 15, some (12, false), .bin .eql .scal, [.t 14, .c (.int .u8 48)]⟩,
 ⟨some 16, none, .pick, [.t 12, .c (.bool true), .t 15]⟩,
 ⟨some 17, none, .mov, [.t 16]⟩,
 ⟨some 18, some (17, false), .mov, [.t 0]⟩,
 ⟨some 19, some (17, false), .call 59, [.t 18, .c (.str (bstr [48, 49, 50, 51, 52, 53, 54, 55, 56, 57]))]⟩,
 ⟨some 20, some (17, false), .bin .neq .scal, [.t 19, .c (.str (bstr []))]⟩,
 ⟨some 21, none, .pick, [.t 17, .c (.bool true), .t 20]⟩])
 (.cond (.t 21)
 (.seq (.reg []
 [⟨some 2, none, .mov, [.c (.int .i64 0)]⟩])
 .ret)
 .skip))
 (.seq (.reg []
 [⟨some 23, none, .mov, [.t 0]⟩,
 ⟨some 24, none, .call 60, [.t 23]⟩,
 ⟨some 22, none, .mov, [.t 24]⟩,
 ⟨some 25, none, .ext 0, [.t 22]⟩,
 ⟨some 26, none, .ext 1, [.t 22]⟩,
 ⟨some 3, none, .mov, [.t 25]⟩,
 ⟨some 4, none, .mov, [.t 26]⟩])
 (.seq (.reg []
 [⟨some 27, none, .mov, [.t 3]⟩,
 ⟨some 2, none, .mov, [.t 27]⟩])
 .ret)))
theorem i31 : fnInfo Tryz.prog 31 = some (28, [.t 2], ac31) := by kernel_rfl
def ac32_1 : AC :=
 .seq (.reg []
 [⟨some 45, none, .bin .lss .scal, [.t 44, .t 43]⟩])
 (.seq (.cond (.t 45)
 .skip
 (.exit 0))
 (.seq (.block 1 (.seq (.reg []
 [⟨some 46, none, .idxA 1, [.t 42, .t 44]⟩,
 ⟨some 47, none, .load none, [.t 46]⟩,
 ⟨some 12, none, .mov, [.t 47]⟩])
 (.seq (.reg []
 [⟨some 49, none, .mov, [.t 12]⟩,
 ⟨some 50, none, .call 62, [.t 49, .c (.int .i64 255)]⟩,
 ⟨some 48, none, .mov, [.t 50]⟩,
 ⟨some 51, none, .ext 0, [.t 48]⟩,
 ⟨some 52, none, .ext 1, [.t 48]⟩,
 ⟨some 13, none, .mov, [.t 51]⟩,
 ⟨some 14, none, .mov, [.t 52]⟩])
 (.seq (.seq (.reg []
 [⟨some 53, none, .mov, [.t 14]⟩,
 ⟨some 54, none, .unNot, [.t 53]⟩])
 (.cond (.t 54)
 (.seq (.reg []
 [⟨some 55, none, .build [.int .u32 0, .int .i64 0] [], []⟩,
 ⟨none, none, .store 2, [.t 2, .t 55]⟩,
 ⟨some 3, none, .mov, [.c (.int .i64 3)]⟩])
 .ret)
 .skip))
 (.reg []
 [⟨some 56, none, .fldA 0, [.t 10]⟩,
 ⟨some 57, none, .load none, [.t 56]⟩,
 ⟨some 58, none, .bin .shl .scal, [.t 57, .c (.int .u64 8)]⟩,
 ⟨some 59, none, .mov, [.t 13]⟩,
 ⟨some 60, none, .conv .u32, [.t 59]⟩,
 ⟨some 61, none, .bin .or .scal, [.t 58, .t 60]⟩,
 ⟨some 62, none, .fldA 0, [.t 10]⟩,
 ⟨none, none, .store 1, [.t 62, .t 61]⟩])))))
 (.reg []
 [⟨some 63, none, .bin .add .scal, [.t 44, .c (.int .i64 1)]⟩,
 ⟨some 44, none, .mov, [.t 63]⟩])))
/-- "crossroads/addr.Parse": 69 temporaries, 1 parameters, results some [.c 2 (some 2), .t 3]. -/
def ac32 : AC :=
 .seq (.reg []
 [⟨some 2, none, .alloc [.int .u32 0, .int .i64 0], []⟩,
 ⟨some 3, none, .mov, [.c (.int .i64 0)]⟩])
 (.seq (.reg []
 [⟨some 16, none, .mov, [.t 0]⟩,
 ⟨some 17, none, .call 61, [.t 16, .c (.str (bstr [47]))]⟩,
 ⟨some 15, none, .mov, [.t 17]⟩,
 ⟨some 18, none, .ext 0, [.t 15]⟩,
 ⟨some 19, none, .ext 1, [.t 15]⟩,
 ⟨some 20, none, .ext 2, [.t 15]⟩,
 ⟨some 4, none, .mov, [.t 18]⟩,
 ⟨some 5, none, .mov, [.t 19]⟩,
 ⟨some 6, none, .mov, [.t 20]⟩])
 (.seq (.reg []
 [⟨some 21, none, .mov, [.t 4]⟩,
 ⟨some 22, none, .call 30, [.t 21, .c (.str (bstr [46]))]⟩,
 ⟨some 7, none, .mov, [.t 22]⟩])
 (.seq (.reg []
 [⟨some 24, none, .mov, [.t 5]⟩,
 ⟨some 25, none, .call 62, [.t 24, .c (.int .i64 32)]⟩,
 ⟨some 23, none, .mov, [.t 25]⟩,
 ⟨some 26, none, .ext 0, [.t 23]⟩,
 ⟨some 27, none, .ext 1, [.t 23]⟩,
 ⟨some 8, none, .mov, [.t 26]⟩,
 ⟨some 9, none, .mov, [.t 27]⟩])
 (.seq (.seq (.reg []
 [⟨some 28, none, .mov, [.t 6]⟩,
 ⟨some 29, none, .unNot, [.t 28]⟩,
 ⟨some 30, none, .mov, [.t 29]⟩,
 ⟨some 31, some (30, false), .mov, [.t 9]⟩,
 ⟨some 32, some (30, false), .unNot, [.t 31]⟩,
 ⟨some 33, none, .pick, [.t 30, .c (.bool true), .t 32]⟩,
 ⟨some 34, none, .mov, [.t 33]⟩,
 ⟨some 35, some (34, false), .mov, [.t 7]⟩,
 ⟨some 36, some (34, false), .lenL, [.t 35]⟩,
 ⟨some 37, some (34, false), .bin .neq .scal, [.t 36, .c (.int .i64 4)]⟩,
 ⟨some 38, none, .pick, [.t 34, .c (.bool true), .t 37]⟩])
 (.cond (.t 38)
 (.seq (.reg []
 [⟨some 39, none, .build [.int .u32 0, .int .i64 0] [], []⟩,
 ⟨none, none, .store 2, [.t 2, .t 39]⟩,
 ⟨some 3, none, .mov, [.c (.int .i64 3)]⟩])
 .ret)
 .skip))
 (.seq (.reg []
 [⟨some 40, none, .mov, [.t 8]⟩,
 ⟨some 41, none, .build [.int .u32 0, .int .i64 0] [(1, 1)], [.t 40]⟩,
 ⟨some 10, none, .alloc [.int .u32 0, .int .i64 0], []⟩,
 ⟨none, none, .store 2, [.t 10, .t 41]⟩])
 (.seq (.seq (.reg []
 [⟨some 42, none, .mov, [.t 7]⟩,
 ⟨some 43, none, .lenL, [.t 42]⟩,
 ⟨some 44, none, .mov, [.c (.int .i64 0)]⟩])
 (.block 0 (.loop ac32_1)))
 (.seq (.seq (.reg []
 [⟨some 64, none, .load (some 2), [.t 10]⟩,
 ⟨some 65, none, .call 37, [.t 64]⟩,
 ⟨some 66, none, .unNot, [.t 65]⟩])
 (.cond (.t 66)
 (.seq (.reg []
 [⟨some 67, none, .build [.int .u32 0, .int .i64 0] [], []⟩,
 ⟨none, none, .store 2, [.t 2, .t 67]⟩,
 ⟨some 3, none, .mov, [.c (.int .i64 1)]⟩])
 .ret)
 .skip))
 (.seq (.reg []
 [⟨some 68, none, .load (some 2), [.t 10]⟩,
 ⟨none, none, .store 2, [.t 2, .t 68]⟩,
 ⟨some 3, none, .mov, [.c (.int .i64 0)]⟩])
 .ret))))))))
theorem i32 : fnInfo Tryz.prog 32 = some (69, [.c 2 (some 2), .t 3], ac32) := by kernel_rfl
def ac33_1 : AC :=
 .seq (.reg []
 [⟨some 19, none, .bin .lss .scal, [.t 18, .t 17]⟩])
 (.seq (.cond (.t 19)
 .skip
 (.exit 0))
 (.seq (.block 1 (.seq (.reg []
 [⟨some 20, none, .idxA 2, [.t 16, .t 18]⟩,
 ⟨some 21, none, .load (some 2), [.t 20]⟩,
 ⟨some 6, none, .alloc [.str (bstr []), .nilp], []⟩,
 ⟨none, none, .store 2, [.t 6, .t 21]⟩])
 (.seq (.seq (.reg [[], [0], [1], [2], [3], [4, 3], [5, 3], [3], [7, 3], [6, 8, 3], [3, 9]]
 [⟨some 22, none, .mov, [.t 1]⟩,
 ⟨some 23, none, .lenL, [.t 22]⟩,
 ⟨some 24, none, .bin .lss .scal, [.t 23, .c (.int .i64 2)]⟩,
 ⟨some 25, none, .mov, [.t 24]⟩,
 ⟨some 26, some (25, false), .mov, [.t 1]⟩,
 ⟨some 27, some (25, false), .idxA 1, [.t 26, .c (.int .i64 0)]⟩,
 ⟨some 28, some (25, false), .load none, [.t 27]⟩,
 ⟨some 29, some (25, false), .fldA 0, [.t 6]⟩,
 ⟨some 30, some (25, false), .load none, [.t 29]⟩,
 ⟨some 31, some (25, false), .bin .neq .scal, [.t 28, .t 30]⟩,
 ⟨some 32, none, .pick, [.t 25, .c (.bool true), .t 31]⟩])
 (.cond (.t 32)
 (.exit 1)
 .skip))
 (.seq (.reg []
 [⟨some 33, none, .mov, [.t 1]⟩,
 ⟨some 34, none, .idxA 1, [.t 33, .c (.int .i64 1)]⟩,
 ⟨some 35, none, .load none, [.t 34]⟩,
 ⟨some 36, none, .call 31, [.t 35]⟩,
 ⟨some 7, none, .mov, [.t 36]⟩])
 (.seq (.seq (.reg []
 [⟨some 37, none, .mov, [.t 7]⟩,
 ⟨some 38, none, .bin .eql .scal, [.t 37, .c (.int .i64 0)]⟩])
 (.cond (.t 38)
 (.seq (.reg []
 [⟨some 4, none, .mov, [.c (.bool false)]⟩])
 .ret)
 .skip))
 (.seq (.reg []
 [⟨some 39, none, .fldA 1, [.t 6]⟩,
 ⟨some 40, none, .load none, [.t 39]⟩,
 ⟨some 41, none, .mov, [.t 7]⟩,
 ⟨some 42, none, .nilchk, [.t 40]⟩,
 ⟨none, none, .store 1, [.t 42, .t 41]⟩])
 (.reg []
 [⟨some 43, none, .mov, [.t 1]⟩,
 ⟨some 44, none, .slice 1 true false, [.t 43, .c (.int .i64 2)]⟩,
 ⟨some 1, none, .mov, [.t 44]⟩])))))))
 (.reg []
 [⟨some 45, none, .bin .add .scal, [.t 18, .c (.int .i64 1)]⟩,
 ⟨some 18, none, .mov, [.t 45]⟩])))
/-- "(*crossroads/plist.Rule).limits": 49 temporaries, 2 parameters, results some [.t 4]. -/
def ac33 : AC :=
 .seq (.reg []
 [⟨some 4, none, .mov, [.c (.bool false)]⟩])
 (.seq (.seq (.reg [[], [0], [1], [2], [], [4], [5], [6], [3, 7], [8], []]
 [⟨some 8, none, .mov, [.t 0]⟩,
 ⟨some 9, none, .nilchk, [.t 8]⟩,
 ⟨some 10, none, .fldA 4, [.t 9]⟩,
 ⟨some 11, none, .build [.str (bstr []), .nilp] [(0, 1), (1, 1)], [.c (.str (bstr [103, 101])), .t 10]⟩,
 ⟨some 12, none, .mov, [.t 0]⟩,
 ⟨some 13, none, .nilchk, [.t 12]⟩,
 ⟨some 14, none, .fldA 5, [.t 13]⟩,
 ⟨some 15, none, .build [.str (bstr []), .nilp] [(0, 1), (1, 1)], [.c (.str (bstr [108, 101])), .t 14]⟩,
 ⟨some 16, none, .bslice 2 96, [.t 11, .t 15]⟩,
 ⟨some 17, none, .lenL, [.t 16]⟩,
 ⟨some 18, none, .mov, [.c (.int .i64 0)]⟩])
 (.block 0 (.loop ac33_1)))
 (.seq (.reg []
 [⟨some 46, none, .mov, [.t 1]⟩,
 ⟨some 47, none, .lenL, [.t 46]⟩,
 ⟨some 48, none, .bin .eql .scal, [.t 47, .c (.int .i64 0)]⟩,
 ⟨some 4, none, .mov, [.t 48]⟩])
 .ret))
theorem i33 : fnInfo Tryz.prog 33 = some (49, [.t 4], ac33) := by kernel_rfl
def ac35_1 : AC :=
 .seq (.seq (.reg []
 [⟨some 5, none, .mov, [.t 4]⟩,
 ⟨some 6, none, .bin .geq .scal, [.t 5, .c (.int .i64 0)]⟩])
 (.cond (.t 6)
 .skip
 (.exit 0)))
 (.seq (.block 1 (.reg []
 [⟨some 9, none, .mov, [.t 3]⟩,
 ⟨some 10, none, .fldA 0, [.t 1]⟩,
 ⟨some 11, none, .load none, [.t 10]⟩,
 ⟨some 12, none, .mov, [.t 4]⟩,
 ⟨some 13, none, .bin .shr .scal, [.t 11, .t 12]⟩,
 ⟨some 14, none, .bin .and .scal, [.t 13, .c (.int .u32 255)]⟩,
 ⟨some 15, none, .conv .i64, [.t 14]⟩,
 ⟨some 16, none, .call 34, [.t 15]⟩,
 ⟨some 17, none, .bslice 1 9, [.t 16]⟩,
 ⟨some 18, none, .append 1 9 16, [.t 9, .t 17]⟩,
 ⟨some 3, none, .mov, [.t 18]⟩]))
 (.reg []
 [⟨some 7, none, .mov, [.t 4]⟩,
 ⟨some 8, none, .bin .sub .scal, [.t 7, .c (.int .i64 8)]⟩,
 ⟨some 4, none, .mov, [.t 8]⟩]))
/-- "crossroads/addr.Text": 26 temporaries, 1 parameters, results some [.t 2]. -/
def ac35 : AC :=
 .seq (.reg []
 [⟨some 1, none, .box, [.t 0]⟩,
 ⟨some 2, none, .mov, [.c (.str (bstr []))]⟩])
 (.seq (.reg []
 [⟨some 3, none, .mov, [.c .nils]⟩])
 (.seq (.seq (.reg []
 [⟨some 4, none, .mov, [.c (.int .i64 24)]⟩])
 (.block 0 (.loop ac35_1)))
 (.seq (.reg [[], [0], [1], [], [3], [4, 1], [2, 5], [6, 5, 0, 1, 2, 3, 4, 5, 6]]
 [⟨some 19, none, .mov, [.t 3]⟩,
 ⟨some 20, none, .call 36, [.t 19, .c (.str (bstr [46]))]⟩,
 ⟨some 21, none, .bin .add .scal, [.t 20, .c (.str (bstr [47]))]⟩,
 ⟨some 22, none, .fldA 1, [.t 1]⟩,
 ⟨some 23, none, .load none, [.t 22]⟩,
 ⟨some 24, none, .call 34, [.t 23]⟩,
 ⟨some 25, none, .bin .add .scal, [.t 21, .t 24]⟩,
 ⟨some 2, none, .mov, [.t 25]⟩])
 .ret)))
theorem i35 : fnInfo Tryz.prog 35 = some (26, [.t 2], ac35) := by kernel_rfl
/-- "crossroads/addr.May": 15 temporaries, 1 parameters, results some [.t 2]. -/
def ac37 : AC :=
 .seq (.reg []
 [⟨some 1, none, .box, [.t 0]⟩,
 ⟨some 2, none, .mov, [.c (.bool false)]⟩])
 (.seq (.reg [[], [0], [1], [2, 2], [3], [4, 3], [3], [6, 3], [7, 3, 3], [5, 8, 3], [9, 3], [3, 10], [11, 8, 0, 1, 2, 3, 4, 5, 6, 7, 8, 9, 10, 11]]
 [⟨some 3, none, .fldA 1, [.t 1]⟩,
 ⟨some 4, none, .load none, [.t 3]⟩,
 ⟨some 5, none, .call 67, [.t 4]⟩,
 ⟨some 6, none, .mov, [.t 5]⟩,
 ⟨some 7, some (6, true), .fldA 0, [.t 1]⟩,
 ⟨some 8, some (6, true), .load none, [.t 7]⟩,
 ⟨some 9, some (6, true), .fldA 1, [.t 1]⟩,
 ⟨some 10, some (6, true), .load none, [.t 9]⟩,
 ⟨some 11, some (6, true), .call 68, [.t 10]⟩,
 ⟨some 12, some (6, true), .bin .andNot .scal, [.t 8, .t 11]⟩,
 ⟨some 13, some (6, true), .bin .eql .scal, [.t 12, .c (.int .u32 0)]⟩,
 ⟨some 14, none, .pick, [.t 6, .t 13, .c (.bool false)]⟩,
 ⟨some 2, none, .mov, [.t 14]⟩])
 .ret)
theorem i37 : fnInfo Tryz.prog 37 = some (15, [.t 2], ac37) := by kernel_rfl
def ac38_1 : AC :=
 .seq (.seq (.reg []
 [⟨some 14, none, .mov, [.t 3]⟩,
 ⟨some 15, none, .bin .lss .scal, [.t 14, .c (.int .i64 32)]⟩])
 (.cond (.t 15)
 .skip
 (.exit 0)))
 (.seq (.block 1 (.seq (.reg []
 [⟨some 18, none, .fldA 0, [.t 1]⟩,
 ⟨some 19, none, .load none, [.t 18]⟩,
 ⟨some 20, none, .mov, [.t 3]⟩,
 ⟨some 21, none, .call 69, [.t 19, .t 20]⟩,
 ⟨some 22, none, .bin .eql .scal, [.t 21, .c (.int .i64 1)]⟩])
 (.cond (.t 22)
 (.seq (.reg []
 [⟨some 2, none, .mov, [.c (.bool false)]⟩])
 .ret)
 .skip)))
 (.reg []
 [⟨some 16, none, .mov, [.t 3]⟩,
 ⟨some 17, none, .bin .add .scal, [.t 16, .c (.int .i64 1)]⟩,
 ⟨some 3, none, .mov, [.t 17]⟩]))
/-- "crossroads/crossroadsref03.May": 23 temporaries, 1 parameters, results some [.t 2]. -/
def ac38 : AC :=
 .seq (.reg []
 [⟨some 1, none, .box, [.t 0]⟩,
 ⟨some 2, none, .mov, [.c (.bool false)]⟩])
 (.seq (.seq (.reg []
 [⟨some 4, none, .fldA 1, [.t 1]⟩,
 ⟨some 5, none, .load none, [.t 4]⟩,
 ⟨some 6, none, .bin .lss .scal, [.t 5, .c (.int .i64 0)]⟩,
 ⟨some 7, none, .mov, [.t 6]⟩,
 ⟨some 8, some (7, false), .fldA 1, [.t 1]⟩,
 ⟨some 9, some (7, false), .load none, [.t 8]⟩,
 ⟨some 10, some (7, false), .bin .gtr .scal, [.t 9, .c (.int .i64 32)]⟩,
 ⟨some 11, none, .pick, [.t 7, .c (.bool true), .t 10]⟩])
 (.cond (.t 11)
 (.seq (.reg []
 [⟨some 2, none, .mov, [.c (.bool false)]⟩])
 .ret)
 .skip))
 (.seq (.seq (.reg []
 [⟨some 12, none, .fldA 1, [.t 1]⟩,
 ⟨some 13, none, .load none, [.t 12]⟩,
 ⟨some 3, none, .mov, [.t 13]⟩])
 (.block 0 (.loop ac38_1)))
 (.seq (.reg []
 [⟨some 2, none, .mov, [.c (.bool true)]⟩])
 .ret)))
theorem i38 : fnInfo Tryz.prog 38 = some (23, [.t 2], ac38) := by kernel_rfl
/-- "(crossroads/plist.Rule).bounds": 38 temporaries, 1 parameters, results some [.t 2, .t 3]. -/
def ac39 : AC :=
 .seq (.reg []
 [⟨some 1, none, .box, [.t 0]⟩,
 ⟨some 2, none, .mov, [.c (.int .i64 0)]⟩,
 ⟨some 3, none, .mov, [.c (.int .i64 0)]⟩])
 (.seq (.block 0 (.seq (.reg []
 [⟨some 5, none, .fldA 4, [.t 1]⟩,
 ⟨some 6, none, .load none, [.t 5]⟩,
 ⟨some 7, none, .bin .eql .scal, [.t 6, .c (.int .i64 0)]⟩,
 ⟨some 8, none, .mov, [.t 7]⟩,
 ⟨some 9, some (8, true), .fldA 5, [.t 1]⟩,
 ⟨some 10, some (8, true), .load none, [.t 9]⟩,
 ⟨some 11, some (8, true), .bin .eql .scal, [.t 10, .c (.int .i64 0)]⟩,
 ⟨some 12, none, .pick, [.t 8, .t 11, .c (.bool false)]⟩,
 ⟨some 4, none, .mov, [.t 12]⟩])
 (.cond (.t 4)
 (.seq (.reg [[], [0], [1], [], [3], [4], [2, 0, 1, 2], [5, 6, 0, 1, 2, 3, 4, 5, 6]]
 [⟨some 13, none, .fldA 2, [.t 1]⟩,
 ⟨some 14, none, .fldA 1, [.t 13]⟩,
 ⟨some 15, none, .load none, [.t 14]⟩,
 ⟨some 16, none, .fldA 2, [.t 1]⟩,
 ⟨some 17, none, .fldA 1, [.t 16]⟩,
 ⟨some 18, none, .load none, [.t 17]⟩,
 ⟨some 2, none, .mov, [.t 15]⟩,
 ⟨some 3, none, .mov, [.t 18]⟩])
 .ret)
 (.seq (.reg []
 [⟨some 20, none, .fldA 4, [.t 1]⟩,
 ⟨some 21, none, .load none, [.t 20]⟩,
 ⟨some 22, none, .bin .eql .scal, [.t 21, .c (.int .i64 0)]⟩,
 ⟨some 19, none, .mov, [.t 22]⟩])
 (.cond (.t 19)
 (.seq (.reg [[], [0], [1], [], [3], [2, 0, 1, 2], [4, 5, 0, 1, 2, 3, 4, 5]]
 [⟨some 23, none, .fldA 2, [.t 1]⟩,
 ⟨some 24, none, .fldA 1, [.t 23]⟩,
 ⟨some 25, none, .load none, [.t 24]⟩,
 ⟨some 26, none, .fldA 5, [.t 1]⟩,
 ⟨some 27, none, .load none, [.t 26]⟩,
 ⟨some 2, none, .mov, [.t 25]⟩,
 ⟨some 3, none, .mov, [.t 27]⟩])
 .ret)
 (.seq (.reg []
 [⟨some 29, none, .fldA 5, [.t 1]⟩,
 ⟨some 30, none, .load none, [.t 29]⟩,
 ⟨some 31, none, .bin .eql .scal, [.t 30, .c (.int .i64 0)]⟩,
 ⟨some 28, none, .mov, [.t 31]⟩])
 (.cond (.t 28)
 (.seq (.reg []
 [⟨some 32, none, .fldA 4, [.t 1]⟩,
 ⟨some 33, none, .load none, [.t 32]⟩,
 ⟨some 2, none, .mov, [.t 33]⟩,
 ⟨some 3, none, .mov, [.c (.int .i64 32)]⟩])
 .ret)
 .skip)))))))
 (.seq (.reg [[], [0], [], [2], [1, 0, 1], [3, 4, 0, 1, 2, 3, 4]]
 [⟨some 34, none, .fldA 4, [.t 1]⟩,
 ⟨some 35, none, .load none, [.t 34]⟩,
 ⟨some 36, none, .fldA 5, [.t 1]⟩,
 ⟨some 37, none, .load none, [.t 36]⟩,
 ⟨some 2, none, .mov, [.t 35]⟩,
 ⟨some 3, none, .mov, [.t 37]⟩])
 .ret))
theorem i39 : fnInfo Tryz.prog 39 = some (38, [.t 2, .t 3], ac39) := by kernel_rfl
/-- "crossroads/addr.Covers": 20 temporaries, 2 parameters, results some [.t 4]. -/
def ac40 : AC :=
 .seq (.reg []
 [⟨some 2, none, .box, [.t 0]⟩,
 ⟨some 3, none, .box, [.t 1]⟩,
 ⟨some 4, none, .mov, [.c (.bool false)]⟩])
 (.seq (.reg []
 [⟨some 5, none, .load (some 2), [.t 3]⟩,
 ⟨some 6, none, .call 37, [.t 5]⟩,
 ⟨some 7, none, .mov, [.t 6]⟩,
 ⟨some 8, some (7, true), .fldA 1, [.t 2]⟩,
 ⟨some 9, some (7, true), .load none, [.t 8]⟩,
 ⟨some 10, some (7, true), .fldA 1, [.t 3]⟩,
 ⟨some 11, some (7, true), .load none, [.t 10]⟩,
 ⟨some 12, some (7, true), .bin .leq .scal, [.t 9, .t 11]⟩,
 ⟨some 13, none, .pick, [.t 7, .t 12, .c (.bool false)]⟩,
 ⟨some 14, none, .mov, [.t 13]⟩,
 ⟨some 15, some (14, true), .load (some 2), [.t 2]⟩,
 ⟨some 16, some (14, true), .fldA 0, [.t 3]⟩,
 ⟨some 17, some (14, true), .load none, [.t 16]⟩,
 ⟨some 18, some (14, true), .call 70, [.t 15, .t 17]⟩,
 ⟨some 19, none, .pick, [.t 14, .t 18, .c (.bool false)]⟩,
 ⟨some 4, none, .mov, [.t 19]⟩])
 .ret)
theorem i40 : fnInfo Tryz.prog 40 = some (20, [.t 4], ac40) := by kernel_rfl
/-- "crossroads/crossroadsref07.Bounds": 33 temporaries, 1 parameters, results some [.t 2, .t 3]. -/
def ac41 : AC :=
 .seq (.reg []
 [⟨some 1, none, .box, [.t 0]⟩,
 ⟨some 2, none, .mov, [.c (.int .i64 0)]⟩,
 ⟨some 3, none, .mov, [.c (.int .i64 0)]⟩])
 (.seq (.seq (.reg []
 [⟨some 6, none, .fldA 4, [.t 1]⟩,
 ⟨some 7, none, .load none, [.t 6]⟩,
 ⟨some 8, none, .bin .eql .scal, [.t 7, .c (.int .i64 0)]⟩,
 ⟨some 9, none, .mov, [.t 8]⟩,
 ⟨some 10, some (9, true), .fldA 5, [.t 1]⟩,
 ⟨some 11, some (9, true), .load none, [.t 10]⟩,
 ⟨some 12, some (9, true), .bin .eql .scal, [.t 11, .c (.int .i64 0)]⟩,
 ⟨some 13, none, .pick, [.t 9, .t 12, .c (.bool false)]⟩])
 (.cond (.t 13)
 (.seq (.reg [[], [0], [1], [], [3], [4], [2, 0, 1, 2], [5, 6, 0, 1, 2, 3, 4, 5, 6]]
 [⟨some 14, none, .fldA 2, [.t 1]⟩,
 ⟨some 15, none, .fldA 1, [.t 14]⟩,
 ⟨some 16, none, .load none, [.t 15]⟩,
 ⟨some 17, none, .fldA 2, [.t 1]⟩,
 ⟨some 18, none, .fldA 1, [.t 17]⟩,
 ⟨some 19, none, .load none, [.t 18]⟩,
 ⟨some 2, none, .mov, [.t 16]⟩,
 ⟨some 3, none, .mov, [.t 19]⟩])
 .ret)
 .skip))
 (.seq (.reg [[], [0], [], [2], [1, 0, 1], [3, 4, 0, 1, 2, 3, 4]]
 [⟨some 20, none, .fldA 4, [.t 1]⟩,
 ⟨some 21, none, .load none, [.t 20]⟩,
 ⟨some 22, none, .fldA 5, [.t 1]⟩,
 ⟨some 23, none, .load none, [.t 22]⟩,
 ⟨some 4, none, .mov, [.t 21]⟩,
 ⟨some 5, none, .mov, [.t 23]⟩])
 (.seq (.seq (.reg []
 [⟨some 24, none, .mov, [.t 4]⟩,
 ⟨some 25, none, .bin .eql .scal, [.t 24, .c (.int .i64 0)]⟩])
 (.cond (.t 25)
 (.reg []
 [⟨some 26, none, .fldA 2, [.t 1]⟩,
 ⟨some 27, none, .fldA 1, [.t 26]⟩,
 ⟨some 28, none, .load none, [.t 27]⟩,
 ⟨some 4, none, .mov, [.t 28]⟩])
 .skip))
 (.seq (.seq (.reg []
 [⟨some 29, none, .mov, [.t 5]⟩,
 ⟨some 30, none, .bin .eql .scal, [.t 29, .c (.int .i64 0)]⟩])
 (.cond (.t 30)
 (.reg []
 [⟨some 5, none, .mov, [.c (.int .i64 32)]⟩])
 .skip))
 (.seq (.reg []
 [⟨some 31, none, .mov, [.t 4]⟩,
 ⟨some 32, none, .mov, [.t 5]⟩,
 ⟨some 2, none, .mov, [.t 31]⟩,
 ⟨some 3, none, .mov, [.t 32]⟩])
 .ret)))))
theorem i41 : fnInfo Tryz.prog 41 = some (33, [.t 2, .t 3], ac41) := by kernel_rfl
/-- "crossroads/crossroadsref03.Covers": 24 temporaries, 2 parameters, results some [.t 4]. -/
def ac42 : AC :=
 .seq (.reg []
 [⟨some 2, none, .box, [.t 0]⟩,
 ⟨some 3, none, .box, [.t 1]⟩,
 ⟨some 4, none, .mov, [.c (.bool false)]⟩])
 (.seq (.reg []
 [⟨some 5, none, .load (some 2), [.t 2]⟩,
 ⟨some 6, none, .call 38, [.t 5]⟩,
 ⟨some 7, none, .mov, [.t 6]⟩,
 ⟨some 8, some (7, true), .load (some 2), [.t 3]⟩,
 ⟨some 9, some (7, true), .call 38, [.t 8]⟩,
 ⟨some 10, none, .pick, [.t 7, .t 9, .c (.bool false)]⟩,
 ⟨some 11, none, .mov, [.t 10]⟩,
 ⟨some 12, some (11, true), .fldA 1, [.t 3]⟩,
 ⟨some 13, some (11, true), .load none, [.t 12]⟩,
 ⟨some 14, some (11, true), .fldA 1, [.t 2]⟩,
 ⟨some 15, some (11, true), .load none, [.t 14]⟩,
 ⟨some 16, some (11, true), .bin .geq .scal, [.t 13, .t 15]⟩,
 ⟨some 17, none, .pick, [.t 11, .t 16, .c (.bool false)]⟩,
 ⟨some 18, none, .mov, [.t 17]⟩,
 ⟨some 19, some (18, true), .load (some 2), [.t 2]⟩,
 ⟨some 20, some (18, true), .fldA 0, [.t 3]⟩,
 ⟨some 21, some (18, true), .load none, [.t 20]⟩,
 ⟨some 22, some (18, true), .call 71, [.t 19, .t 21]⟩,
 ⟨some 23, none, .pick, [.t 18, .t 22, .c (.bool false)]⟩,
 ⟨some 4, none, .mov, [.t 23]⟩])
 .ret)
theorem i42 : fnInfo Tryz.prog 42 = some (24, [.t 4], ac42) := by kernel_rfl
/-- "slices.ContainsFunc[[]crossroads/plist.Rule,crossroads/plist.Rule]": 9 temporaries, 2 parameters, results some [.t 4]. -/
def ac48 : AC :=
 .seq (.reg []
 [⟨some 4, none, .mov, [.c (.bool false)]⟩])
 (.seq (.reg []
 [⟨some 5, none, .mov, [.t 0]⟩,
 ⟨some 6, none, .mov, [.t 1]⟩,
 ⟨some 7, none, .call 51, [.t 5, .t 6]⟩,
 ⟨some 8, none, .bin .geq .scal, [.t 7, .c (.int .i64 0)]⟩,
 ⟨some 4, none, .mov, [.t 8]⟩])
 .ret)
theorem i48 : fnInfo Tryz.prog 48 = some (9, [.t 4], ac48) := by kernel_rfl
/-- "crossroads/plist.Idle$1": 7 temporaries, 1 parameters, results some [.t 3]. -/
def ac49 : AC :=
 .seq (.reg []
 [⟨some 2, none, .box, [.t 0]⟩,
 ⟨some 3, none, .mov, [.c (.bool false)]⟩])
 (.seq (.reg []
 [⟨some 4, none, .load (some 6), [.t 2]⟩,
 ⟨some 5, none, .load (some 6), [.t 1]⟩,
 ⟨some 6, none, .call 50, [.t 4, .t 5]⟩,
 ⟨some 3, none, .mov, [.t 6]⟩])
 .ret)
theorem i49 : fnInfo Tryz.prog 49 = some (7, [.t 3], ac49) := by kernel_rfl
/-- "(crossroads/plist.Rule).hides": 34 temporaries, 2 parameters, results some [.t 4]. -/
def ac50 : AC :=
 .seq (.reg []
 [⟨some 2, none, .box, [.t 0]⟩,
 ⟨some 3, none, .box, [.t 1]⟩,
 ⟨some 4, none, .mov, [.c (.bool false)]⟩])
 (.seq (.reg []
 [⟨some 10, none, .load (some 6), [.t 2]⟩,
 ⟨some 11, none, .call 39, [.t 10]⟩,
 ⟨some 9, none, .mov, [.t 11]⟩,
 ⟨some 12, none, .ext 0, [.t 9]⟩,
 ⟨some 13, none, .ext 1, [.t 9]⟩,
 ⟨some 5, none, .mov, [.t 12]⟩,
 ⟨some 6, none, .mov, [.t 13]⟩])
 (.seq (.reg []
 [⟨some 15, none, .load (some 6), [.t 3]⟩,
 ⟨some 16, none, .call 39, [.t 15]⟩,
 ⟨some 14, none, .mov, [.t 16]⟩,
 ⟨some 17, none, .ext 0, [.t 14]⟩,
 ⟨some 18, none, .ext 1, [.t 14]⟩,
 ⟨some 7, none, .mov, [.t 17]⟩,
 ⟨some 8, none, .mov, [.t 18]⟩])
 (.seq (.reg []
 [⟨some 19, none, .fldA 2, [.t 2]⟩,
 ⟨some 20, none, .load (some 2), [.t 19]⟩,
 ⟨some 21, none, .fldA 2, [.t 3]⟩,
 ⟨some 22, none, .load (some 2), [.t 21]⟩,
 ⟨some 23, none, .call 40, [.t 20, .t 22]⟩,
 ⟨some 24, none, .mov, [.t 23]⟩,
 ⟨some 25, some (24, true), .mov, [.t 5]⟩,
 ⟨some 26, some (24, true), .mov, [.t 7]⟩,
 ⟨some 27, some (24, true), .bin .leq .scal, [.t 25, .t 26]⟩,
 ⟨some 28, none, .pick, [.t 24, .t 27, .c (.bool false)]⟩,
 ⟨some 29, none, .mov, [.t 28]⟩,
 ⟨some 30, some (29, true), .mov, [.t 6]⟩,
 ⟨some 31, some (29, true), .mov, [.t 8]⟩,
 ⟨some 32, some (29, true), .bin .geq .scal, [.t 30, .t 31]⟩,
 ⟨some 33, none, .pick, [.t 29, .t 32, .c (.bool false)]⟩,
 ⟨some 4, none, .mov, [.t 33]⟩])
 .ret)))
theorem i50 : fnInfo Tryz.prog 50 = some (34, [.t 4], ac50) := by kernel_rfl
def ac51_1 : AC :=
 .seq (.reg []
 [⟨some 9, none, .bin .lss .scal, [.t 8, .t 7]⟩])
 (.seq (.cond (.t 9)
 .skip
 (.exit 0))
 (.seq (.block 1 (.seq (.reg []
 [⟨some 10, none, .mov, [.t 8]⟩,
 ⟨some 5, none, .mov, [.t 10]⟩])
 (.seq (.reg []
 [⟨some 11, none, .mov, [.t 1]⟩,
 ⟨some 12, none, .mov, [.t 0]⟩,
 ⟨some 13, none, .mov, [.t 5]⟩,
 ⟨some 14, none, .idxA 6, [.t 12, .t 13]⟩,
 ⟨some 15, none, .load (some 6), [.t 14]⟩,
 ⟨some 16, none, .callv, [.t 11, .t 15]⟩])
 (.cond (.t 16)
 (.seq (.reg []
 [⟨some 17, none, .mov, [.t 5]⟩,
 ⟨some 4, none, .mov, [.t 17]⟩])
 .ret)
 .skip))))
 (.reg []
 [⟨some 18, none, .bin .add .scal, [.t 8, .c (.int .i64 1)]⟩,
 ⟨some 8, none, .mov, [.t 18]⟩])))
/-- "slices.IndexFunc[[]crossroads/plist.Rule,crossroads/plist.Rule]": 19 temporaries, 2 parameters, results some [.t 4]. -/
def ac51 : AC :=
 .seq (.reg []
 [⟨some 4, none, .mov, [.c (.int .i64 0)]⟩])
 (.seq (.seq (.reg []
 [⟨some 6, none, .mov, [.t 0]⟩,
 ⟨some 7, none, .lenL, [.t 6]⟩,
 ⟨some 8, none, .mov, [.c (.int .i64 0)]⟩])
 (.block 0 (.loop ac51_1)))
 (.seq (.reg []
 [⟨some 4, none, .mov, [.c (.int .i64 (-1))]⟩])
 .ret))
theorem i51 : fnInfo Tryz.prog 51 = some (19, [.t 4], ac51) := by kernel_rfl
/-- "crossroads/plist.Drop$1": 8 temporaries, 1 parameters, results some [.t 3]. -/
def ac52 : AC :=
 .seq (.reg []
 [⟨some 2, none, .box, [.t 0]⟩,
 ⟨some 3, none, .mov, [.c (.bool false)]⟩])
 (.seq (.reg []
 [⟨some 4, none, .fldA 0, [.t 2]⟩,
 ⟨some 5, none, .load none, [.t 4]⟩,
 ⟨some 6, none, .load none, [.t 1]⟩,
 ⟨some 7, none, .bin .eql .scal, [.t 5, .t 6]⟩,
 ⟨some 3, none, .mov, [.t 7]⟩])
 .ret)
theorem i52 : fnInfo Tryz.prog 52 = some (8, [.t 3], ac52) := by kernel_rfl
/-- "slices.Delete[[]crossroads/plist.Rule,crossroads/plist.Rule]": 33 temporaries, 3 parameters, results some [.t 6]. -/
def ac53 : AC :=
 .seq (.reg []
 [⟨some 6, none, .mov, [.c .nils]⟩])
 (.seq (.reg []
 [⟨some 8, none, .mov, [.t 0]⟩,
 ⟨some 9, none, .mov, [.t 1]⟩,
 ⟨some 10, none, .mov, [.t 2]⟩,
 ⟨some 11, none, .mov, [.t 0]⟩,
 ⟨some 12, none, .lenL, [.t 11]⟩,
 ⟨some 13, none, .slice3 6, [.t 8, .t 9, .t 10, .t 12]⟩])
 (.seq (.seq (.reg []
 [⟨some 14, none, .mov, [.t 1]⟩,
 ⟨some 15, none, .mov, [.t 2]⟩,
 ⟨some 16, none, .bin .eql .scal, [.t 14, .t 15]⟩])
 (.cond (.t 16)
 (.seq (.reg []
 [⟨some 17, none, .mov, [.t 0]⟩,
 ⟨some 6, none, .mov, [.t 17]⟩])
 .ret)
 .skip))
 (.seq (.reg []
 [⟨some 18, none, .mov, [.t 0]⟩,
 ⟨some 19, none, .lenL, [.t 18]⟩,
 ⟨some 7, none, .mov, [.t 19]⟩])
 (.seq (.reg [[], [], [0, 1], [], [], [3, 4], [2, 5], [6, 6, 0, 1, 2, 3, 4, 5, 6]]
 [⟨some 20, none, .mov, [.t 0]⟩,
 ⟨some 21, none, .mov, [.t 1]⟩,
 ⟨some 22, none, .slice 6 false true, [.t 20, .t 21]⟩,
 ⟨some 23, none, .mov, [.t 0]⟩,
 ⟨some 24, none, .mov, [.t 2]⟩,
 ⟨some 25, none, .slice 6 true false, [.t 23, .t 24]⟩,
 ⟨some 26, none, .append 6 26 48, [.t 22, .t 25]⟩,
 ⟨some 0, none, .mov, [.t 26]⟩])
 (.seq (.reg []
 [⟨some 27, none, .mov, [.t 0]⟩,
 ⟨some 28, none, .mov, [.t 0]⟩,
 ⟨some 29, none, .lenL, [.t 28]⟩,
 ⟨some 30, none, .mov, [.t 7]⟩,
 ⟨some 31, none, .slice 6 true true, [.t 27, .t 29, .t 30]⟩,
 ⟨none, none, .clear 6 [.int .i64 0, .bool false, .int .u32 0, .int .i64 0, .int .i64 0, .int .i64 0], [.t 31]⟩])
 (.seq (.reg []
 [⟨some 32, none, .mov, [.t 0]⟩,
 ⟨some 6, none, .mov, [.t 32]⟩])
 .ret))))))
theorem i53 : fnInfo Tryz.prog 53 = some (33, [.t 6], ac53) := by kernel_rfl
/-- "slices.Clone[[]crossroads/plist.Rule,crossroads/plist.Rule]": 8 temporaries, 1 parameters, results some [.t 2]. -/
def ac54 : AC :=
 .seq (.reg []
 [⟨some 2, none, .mov, [.c .nils]⟩])
 (.seq (.seq (.reg []
 [⟨some 3, none, .mov, [.t 0]⟩,
 ⟨some 4, none, .bin .eql .sl, [.t 3, .c .nils]⟩])
 (.cond (.t 4)
 (.seq (.reg []
 [⟨some 2, none, .mov, [.c .nils]⟩])
 .ret)
 .skip))
 (.seq (.reg []
 [⟨some 5, none, .bslice 6 26, []⟩,
 ⟨some 6, none, .mov, [.t 0]⟩,
 ⟨some 7, none, .append 6 26 48, [.t 5, .t 6]⟩,
 ⟨some 2, none, .mov, [.t 7]⟩])
 .ret))
theorem i54 : fnInfo Tryz.prog 54 = some (8, [.t 2], ac54) := by kernel_rfl
/-- "crossroads/plist.Eval$1": 7 temporaries, 1 parameters, results some [.t 3]. -/
def ac55 : AC :=
 .seq (.reg []
 [⟨some 2, none, .box, [.t 0]⟩,
 ⟨some 3, none, .mov, [.c (.bool false)]⟩])
 (.seq (.reg []
 [⟨some 4, none, .load (some 6), [.t 2]⟩,
 ⟨some 5, none, .load (some 2), [.t 1]⟩,
 ⟨some 6, none, .call 14, [.t 4, .t 5]⟩,
 ⟨some 3, none, .mov, [.t 6]⟩])
 .ret)
theorem i55 : fnInfo Tryz.prog 55 = some (7, [.t 3], ac55) := by kernel_rfl
/-- "crossroads/plist.find": 11 temporaries, 2 parameters, results some [.t 4, .t 5]. -/
def ac56 : AC :=
 .seq (.reg []
 [⟨some 4, none, .mov, [.c (.int .i64 0)]⟩,
 ⟨some 5, none, .mov, [.c (.bool false)]⟩])
 (.seq (.reg []
 [⟨some 6, none, .mov, [.t 0]⟩,
 ⟨some 7, none, .mov, [.t 1]⟩,
 ⟨some 8, none, .call 74, [.t 6, .t 7, .f 75]⟩,
 ⟨some 9, none, .ext 0, [.t 8]⟩,
 ⟨some 10, none, .ext 1, [.t 8]⟩,
 ⟨some 4, none, .mov, [.t 9]⟩,
 ⟨some 5, none, .mov, [.t 10]⟩])
 .ret)
theorem i56 : fnInfo Tryz.prog 56 = some (11, [.t 4, .t 5], ac56) := by kernel_rfl
/-- "slices.Insert[[]crossroads/plist.Rule,crossroads/plist.Rule]": 95 temporaries, 3 parameters, results some [.t 6]. -/
def ac57 : AC :=
 .seq (.reg []
 [⟨some 6, none, .mov, [.c .nils]⟩])
 (.seq (.reg []
 [⟨some 10, none, .mov, [.t 0]⟩,
 ⟨some 11, none, .mov, [.t 1]⟩,
 ⟨some 12, none, .slice 6 true false, [.t 10, .t 11]⟩])
 (.seq (.reg []
 [⟨some 13, none, .mov, [.t 2]⟩,
 ⟨some 14, none, .lenL, [.t 13]⟩,
 ⟨some 7, none, .mov, [.t 14]⟩])
 (.seq (.seq (.reg []
 [⟨some 15, none, .mov, [.t 7]⟩,
 ⟨some 16, none, .bin .eql .scal, [.t 15, .c (.int .i64 0)]⟩])
 (.cond (.t 16)
 (.seq (.reg []
 [⟨some 17, none, .mov, [.t 0]⟩,
 ⟨some 6, none, .mov, [.t 17]⟩])
 .ret)
 .skip))
 (.seq (.reg []
 [⟨some 18, none, .mov, [.t 0]⟩,
 ⟨some 19, none, .lenL, [.t 18]⟩,
 ⟨some 8, none, .mov, [.t 19]⟩])
 (.seq (.seq (.reg []
 [⟨some 20, none, .mov, [.t 1]⟩,
 ⟨some 21, none, .mov, [.t 8]⟩,
 ⟨some 22, none, .bin .eql .scal, [.t 20, .t 21]⟩])
 (.cond (.t 22)
 (.seq (.reg []
 [⟨some 23, none, .mov, [.t 0]⟩,
 ⟨some 24, none, .mov, [.t 2]⟩,
 ⟨some 25, none, .append 6 26 48, [.t 23, .t 24]⟩,
 ⟨some 6, none, .mov, [.t 25]⟩])
 .ret)
 .skip))
 (.seq (.seq (.reg []
 [⟨some 26, none, .mov, [.t 8]⟩,
 ⟨some 27, none, .mov, [.t 7]⟩,
 ⟨some 28, none, .bin .add .scal, [.t 26, .t 27]⟩,
 ⟨some 29, none, .mov, [.t 0]⟩,
 ⟨some 30, none, .capL, [.t 29]⟩,
 ⟨some 31, none, .bin .gtr .scal, [.t 28, .t 30]⟩])
 (.cond (.t 31)
 (.seq (.reg []
 [⟨some 32, none, .mov, [.t 0]⟩,
 ⟨some 33, none, .mov, [.t 1]⟩,
 ⟨some 34, none, .slice 6 false true, [.t 32, .t 33]⟩,
 ⟨some 35, none, .mov, [.t 8]⟩,
 ⟨some 36, none, .mov, [.t 7]⟩,
 ⟨some 37, none, .bin .add .scal, [.t 35, .t 36]⟩,
 ⟨some 38, none, .mov, [.t 1]⟩,
 ⟨some 39, none, .bin .sub .scal, [.t 37, .t 38]⟩,
 ⟨some 40, none, .appendZ 6 26 48 [.int .i64 0, .bool false, .int .u32 0, .int .i64 0, .int .i64 0, .int .i64 0], [.t 34, .t 39]⟩,
 ⟨some 9, none, .mov, [.t 40]⟩])
 (.seq (.reg []
 [⟨some 41, none, .mov, [.t 9]⟩,
 ⟨some 42, none, .mov, [.t 1]⟩,
 ⟨some 43, none, .slice 6 true false, [.t 41, .t 42]⟩,
 ⟨some 44, none, .mov, [.t 2]⟩,
 ⟨some 45, none, .copy 6, [.t 43, .t 44]⟩])
 (.seq (.reg [[], [], [], [1, 2], [0, 3], [], [], [5, 6], [4, 7]]
 [⟨some 46, none, .mov, [.t 9]⟩,
 ⟨some 47, none, .mov, [.t 1]⟩,
 ⟨some 48, none, .mov, [.t 7]⟩,
 ⟨some 49, none, .bin .add .scal, [.t 47, .t 48]⟩,
 ⟨some 50, none, .slice 6 true false, [.t 46, .t 49]⟩,
 ⟨some 51, none, .mov, [.t 0]⟩,
 ⟨some 52, none, .mov, [.t 1]⟩,
 ⟨some 53, none, .slice 6 true false, [.t 51, .t 52]⟩,
 ⟨some 54, none, .copy 6, [.t 50, .t 53]⟩])
 (.seq (.reg []
 [⟨some 55, none, .mov, [.t 9]⟩,
 ⟨some 6, none, .mov, [.t 55]⟩])
 .ret))))
 .skip))
 (.seq (.reg []
 [⟨some 56, none, .mov, [.t 0]⟩,
 ⟨some 57, none, .mov, [.t 8]⟩,
 ⟨some 58, none, .mov, [.t 7]⟩,
 ⟨some 59, none, .bin .add .scal, [.t 57, .t 58]⟩,
 ⟨some 60, none, .slice 6 false true, [.t 56, .t 59]⟩,
 ⟨some 0, none, .mov, [.t 60]⟩])
 (.seq (.seq (.reg []
 [⟨some 61, none, .mov, [.t 2]⟩,
 ⟨some 62, none, .mov, [.t 0]⟩,
 ⟨some 63, none, .mov, [.t 1]⟩,
 ⟨some 64, none, .mov, [.t 7]⟩,
 ⟨some 65, none, .bin .add .scal, [.t 63, .t 64]⟩,
 ⟨some 66, none, .slice 6 true false, [.t 62, .t 65]⟩,
 ⟨some 67, none, .call 76, [.t 61, .t 66]⟩,
 ⟨some 68, none, .unNot, [.t 67]⟩])
 (.cond (.t 68)
 (.seq (.reg [[], [], [], [1, 2], [0, 3], [], [], [5, 6], [4, 7]]
 [⟨some 69, none, .mov, [.t 0]⟩,
 ⟨some 70, none, .mov, [.t 1]⟩,
 ⟨some 71, none, .mov, [.t 7]⟩,
 ⟨some 72, none, .bin .add .scal, [.t 70, .t 71]⟩,
 ⟨some 73, none, .slice 6 true false, [.t 69, .t 72]⟩,
 ⟨some 74, none, .mov, [.t 0]⟩,
 ⟨some 75, none, .mov, [.t 1]⟩,
 ⟨some 76, none, .slice 6 true false, [.t 74, .t 75]⟩,
 ⟨some 77, none, .copy 6, [.t 73, .t 76]⟩])
 (.seq (.reg []
 [⟨some 78, none, .mov, [.t 0]⟩,
 ⟨some 79, none, .mov, [.t 1]⟩,
 ⟨some 80, none, .slice 6 true false, [.t 78, .t 79]⟩,
 ⟨some 81, none, .mov, [.t 2]⟩,
 ⟨some 82, none, .copy 6, [.t 80, .t 81]⟩])
 (.seq (.reg []
 [⟨some 83, none, .mov, [.t 0]⟩,
 ⟨some 6, none, .mov, [.t 83]⟩])
 .ret)))
 .skip))
 (.seq (.reg []
 [⟨some 84, none, .mov, [.t 0]⟩,
 ⟨some 85, none, .mov, [.t 8]⟩,
 ⟨some 86, none, .slice 6 true false, [.t 84, .t 85]⟩,
 ⟨some 87, none, .mov, [.t 2]⟩,
 ⟨some 88, none, .copy 6, [.t 86, .t 87]⟩])
 (.seq (.reg []
 [⟨some 89, none, .mov, [.t 0]⟩,
 ⟨some 90, none, .mov, [.t 1]⟩,
 ⟨some 91, none, .slice 6 true false, [.t 89, .t 90]⟩,
 ⟨some 92, none, .mov, [.t 7]⟩,
 ⟨some 93, none, .call 77, [.t 91, .t 92]⟩])
 (.seq (.reg []
 [⟨some 94, none, .mov, [.t 0]⟩,
 ⟨some 6, none, .mov, [.t 94]⟩])
 .ret)))))))))))
theorem i57 : fnInfo Tryz.prog 57 = some (95, [.t 6], ac57) := by kernel_rfl
/-- "crossroads/addr.number": 40 temporaries, 2 parameters, results some [.t 4, .t 5]. -/
def ac62 : AC :=
 .seq (.reg []
 [⟨some 4, none, .mov, [.c (.int .i64 0)]⟩,
 ⟨some 5, none, .mov, [.c (.bool false)]⟩])
 (.seq (.reg []
 [⟨some 6, none, .mov, [.f 91]⟩])
 (.seq (.seq (.reg []
 [⟨some 9, none, .mov, [.t 0]⟩,
 ⟨some 10, none, .bin .eql .scal, [.t 9, .c (.str (bstr []))]⟩,
 ⟨some 11, none, .mov, [.t 10]⟩,
 ⟨some 12, some (11, false), .mov, [.t 0]⟩,
 ⟨some 13, some (11, false), .lenS, [.t 12]⟩,
 ⟨some 14, some (11, false), .bin .gtr .scal, [.t 13, .c (.int .i64 3)]⟩,
 ⟨some 15, none, .pick, [.t 11, .c (.bool true), .t 14]⟩,
 ⟨some 16, none, .mov, [.t 15]⟩,
 ⟨some 17, some (16, false), .mov, [.t 0]⟩,
 ⟨some 18, some (16, false), .lenS, [.t 17]⟩,
 ⟨some 19, some (16, false), .bin .gtr .scal, [.t 18, .c (.int .i64 1)]⟩,
 ⟨some 20, some (16, false), .mov, [.t 19]⟩,
 ⟨some 21, some (20, true), .mov, [.t 0]⟩,
 ⟨some 22, some (20, true), .idxS, [.t 21, .c (.int .i64 0)]⟩,
 ⟨some 23, some (20, true), .bin .eql .scal, [.t 22, .c (.int .u8 48)]⟩,
 ⟨some 24, some (16, false), .pick, [.t 20, .t 23, .c (.bool false)]⟩,
 ⟨some 25, none, .pick, [.t 16, .c (.bool true), .t 24]⟩,
 ⟨some 26, none, .mov, [.t 25]⟩,
 ⟨some 27, some (26, false), .mov, [.t 0]⟩,
 ⟨some 28, some (26, false), .mov, [.t 6]⟩,
 ⟨some 29, some (26, false), .call 92, [.t 27, .t 28]⟩,
 ⟨some 30, none, .pick, [.t 26, .c (.bool true), .t 29]⟩])
 (.cond (.t 30)
 (.seq (.reg []
 [⟨some 4, none, .mov, [.c (.int .i64 0)]⟩,
 ⟨some 5, none, .mov, [.c (.bool false)]⟩])
 .ret)
 .skip))
 (.seq (.reg []
 [⟨some 32, none, .mov, [.t 0]⟩,
 ⟨some 33, none, .call 60, [.t 32]⟩,
 ⟨some 31, none, .mov, [.t 33]⟩,
 ⟨some 34, none, .ext 0, [.t 31]⟩,
 ⟨some 35, none, .ext 1, [.t 31]⟩,
 ⟨some 7, none, .mov, [.t 34]⟩,
 ⟨some 8, none, .mov, [.t 35]⟩])
 (.seq (.reg []
 [⟨some 36, none, .mov, [.t 7]⟩,
 ⟨some 37, none, .mov, [.t 7]⟩,
 ⟨some 38, none, .mov, [.t 1]⟩,
 ⟨some 39, none, .bin .leq .scal, [.t 37, .t 38]⟩,
 ⟨some 4, none, .mov, [.t 36]⟩,
 ⟨some 5, none, .mov, [.t 39]⟩])
 .ret))))
theorem i62 : fnInfo Tryz.prog 62 = some (40, [.t 4, .t 5], ac62) := by kernel_rfl
/-- "crossroads/addr.isLong": 9 temporaries, 1 parameters, results some [.t 2]. -/
def ac67 : AC :=
 .seq (.reg []
 [⟨some 2, none, .mov, [.c (.bool false)]⟩])
 (.seq (.reg []
 [⟨some 3, none, .mov, [.t 0]⟩,
 ⟨some 4, none, .bin .geq .scal, [.t 3, .c (.int .i64 0)]⟩,
 ⟨some 5, none, .mov, [.t 4]⟩,
 ⟨some 6, some (5, true), .mov, [.t 0]⟩,
 ⟨some 7, some (5, true), .bin .leq .scal, [.t 6, .c (.int .i64 32)]⟩,
 ⟨some 8, none, .pick, [.t 5, .t 7, .c (.bool false)]⟩,
 ⟨some 2, none, .mov, [.t 8]⟩])
 .ret)
theorem i67 : fnInfo Tryz.prog 67 = some (9, [.t 2], ac67) := by kernel_rfl
/-- "crossroads/addr.Mask": 10 temporaries, 1 parameters, results some [.t 2]. -/
def ac68 : AC :=
 .seq (.reg []
 [⟨some 2, none, .mov, [.c (.int .u32 0)]⟩])
 (.seq (.reg []
 [⟨some 3, none, .mov, [.t 0]⟩,
 ⟨some 4, none, .minmax true, [.t 3, .c (.int .i64 0)]⟩,
 ⟨some 5, none, .minmax false, [.t 4, .c (.int .i64 32)]⟩,
 ⟨some 0, none, .mov, [.t 5]⟩])
 (.seq (.reg []
 [⟨some 6, none, .mov, [.t 0]⟩,
 ⟨some 7, none, .bin .sub .scal, [.c (.int .i64 32), .t 6]⟩,
 ⟨some 8, none, .bin .shl .scal, [.c (.int .u64 4294967295), .t 7]⟩,
 ⟨some 9, none, .conv .u32, [.t 8]⟩,
 ⟨some 2, none, .mov, [.t 9]⟩])
 .ret))
theorem i68 : fnInfo Tryz.prog 68 = some (10, [.t 2], ac68) := by kernel_rfl
/-- "crossroads/crossroadsref03.Bit": 18 temporaries, 2 parameters, results some [.t 4]. -/
def ac69 : AC :=
 .seq (.reg []
 [⟨some 4, none, .mov, [.c (.int .i64 0)]⟩])
 (.seq (.seq (.reg []
 [⟨some 5, none, .mov, [.t 1]⟩,
 ⟨some 6, none, .bin .lss .scal, [.t 5, .c (.int .i64 0)]⟩,
 ⟨some 7, none, .mov, [.t 6]⟩,
 ⟨some 8, some (7, false), .mov, [.t 1]⟩,
 ⟨some 9, some (7, false), .bin .gtr .scal, [.t 8, .c (.int .i64 31)]⟩,
 ⟨some 10, none, .pick, [.t 7, .c (.bool true), .t 9]⟩])
 (.cond (.t 10)
 (.seq (.reg []
 [⟨some 4, none, .mov, [.c (.int .i64 0)]⟩])
 .ret)
 .skip))
 (.seq (.reg []
 [⟨some 11, none, .mov, [.t 0]⟩,
 ⟨some 12, none, .mov, [.t 1]⟩,
 ⟨some 13, none, .bin .sub .scal, [.c (.int .i64 31), .t 12]⟩,
 ⟨some 14, none, .conv .u64, [.t 13]⟩,
 ⟨some 15, none, .bin .shr .scal, [.t 11, .t 14]⟩,
 ⟨some 16, none, .bin .and .scal, [.t 15, .c (.int .u32 1)]⟩,
 ⟨some 17, none, .conv .i64, [.t 16]⟩,
 ⟨some 4, none, .mov, [.t 17]⟩])
 .ret))
theorem i69 : fnInfo Tryz.prog 69 = some (18, [.t 4], ac69) := by kernel_rfl
/-- "crossroads/addr.Has": 17 temporaries, 2 parameters, results some [.t 4]. -/
def ac70 : AC :=
 .seq (.reg []
 [⟨some 2, none, .box, [.t 0]⟩,
 ⟨some 4, none, .mov, [.c (.bool false)]⟩])
 (.seq (.reg [[], [0], [1, 1], [2], [2], [4, 2], [5, 2, 2], [3, 6, 2], [2], [8, 2], [7, 9, 2], [2, 10], [11, 6, 0, 1, 2, 3, 4, 5, 6, 7, 8, 9, 10, 11]]
 [⟨some 5, none, .load (some 2), [.t 2]⟩,
 ⟨some 6, none, .call 37, [.t 5]⟩,
 ⟨some 7, none, .mov, [.t 6]⟩,
 ⟨some 8, some (7, true), .mov, [.t 1]⟩,
 ⟨some 9, some (7, true), .fldA 1, [.t 2]⟩,
 ⟨some 10, some (7, true), .load none, [.t 9]⟩,
 ⟨some 11, some (7, true), .call 68, [.t 10]⟩,
 ⟨some 12, some (7, true), .bin .and .scal, [.t 8, .t 11]⟩,
 ⟨some 13, some (7, true), .fldA 0, [.t 2]⟩,
 ⟨some 14, some (7, true), .load none, [.t 13]⟩,
 ⟨some 15, some (7, true), .bin .eql .scal, [.t 12, .t 14]⟩,
 ⟨some 16, none, .pick, [.t 7, .t 15, .c (.bool false)]⟩,
 ⟨some 4, none, .mov, [.t 16]⟩])
 .ret)
theorem i70 : fnInfo Tryz.prog 70 = some (17, [.t 4], ac70) := by kernel_rfl
def ac71_1 : AC :=
 .seq (.seq (.reg []
 [⟨some 9, none, .mov, [.t 5]⟩,
 ⟨some 10, none, .fldA 1, [.t 2]⟩,
 ⟨some 11, none, .load none, [.t 10]⟩,
 ⟨some 12, none, .bin .lss .scal, [.t 9, .t 11]⟩])
 (.cond (.t 12)
 .skip
 (.exit 0)))
 (.seq (.block 1 (.seq (.reg []
 [⟨some 15, none, .fldA 0, [.t 2]⟩,
 ⟨some 16, none, .load none, [.t 15]⟩,
 ⟨some 17, none, .mov, [.t 5]⟩,
 ⟨some 18, none, .call 69, [.t 16, .t 17]⟩,
 ⟨some 19, none, .mov, [.t 1]⟩,
 ⟨some 20, none, .mov, [.t 5]⟩,
 ⟨some 21, none, .call 69, [.t 19, .t 20]⟩,
 ⟨some 22, none, .bin .neq .scal, [.t 18, .t 21]⟩])
 (.cond (.t 22)
 (.seq (.reg []
 [⟨some 4, none, .mov, [.c (.bool false)]⟩])
 .ret)
 .skip)))
 (.reg []
 [⟨some 13, none, .mov, [.t 5]⟩,
 ⟨some 14, none, .bin .add .scal, [.t 13, .c (.int .i64 1)]⟩,
 ⟨some 5, none, .mov, [.t 14]⟩]))
/-- "crossroads/crossroadsref03.Has": 23 temporaries, 2 parameters, results some [.t 4]. -/
def ac71 : AC :=
 .seq (.reg []
 [⟨some 2, none, .box, [.t 0]⟩,
 ⟨some 4, none, .mov, [.c (.bool false)]⟩])
 (.seq (.seq (.reg []
 [⟨some 6, none, .load (some 2), [.t 2]⟩,
 ⟨some 7, none, .call 38, [.t 6]⟩,
 ⟨some 8, none, .unNot, [.t 7]⟩])
 (.cond (.t 8)
 (.seq (.reg []
 [⟨some 4, none, .mov, [.c (.bool false)]⟩])
 .ret)
 .skip))
 (.seq (.seq (.reg []
 [⟨some 5, none, .mov, [.c (.int .i64 0)]⟩])
 (.block 0 (.loop ac71_1)))
 (.seq (.reg []
 [⟨some 4, none, .mov, [.c (.bool true)]⟩])
 .ret)))
theorem i71 : fnInfo Tryz.prog 71 = some (23, [.t 4], ac71) := by kernel_rfl
def ac74_1 : AC :=
 .seq (.seq (.reg []
 [⟨some 15, none, .mov, [.t 9]⟩,
 ⟨some 16, none, .mov, [.t 10]⟩,
 ⟨some 17, none, .bin .lss .scal, [.t 15, .t 16]⟩])
 (.cond (.t 17)
 .skip
 (.exit 0)))
 (.block 1 (.seq (.reg []
 [⟨some 18, none, .mov, [.t 9]⟩,
 ⟨some 19, none, .mov, [.t 10]⟩,
 ⟨some 20, none, .bin .add .scal, [.t 18, .t 19]⟩,
 ⟨some 21, none, .conv .u64, [.t 20]⟩,
 ⟨some 22, none, .bin .shr .scal, [.t 21, .c (.int .u64 1)]⟩,
 ⟨some 23, none, .conv .i64, [.t 22]⟩,
 ⟨some 11, none, .mov, [.t 23]⟩])
 (.seq (.reg []
 [⟨some 24, none, .mov, [.t 2]⟩,
 ⟨some 25, none, .mov, [.t 0]⟩,
 ⟨some 26, none, .mov, [.t 11]⟩,
 ⟨some 27, none, .idxA 6, [.t 25, .t 26]⟩,
 ⟨some 28, none, .load (some 6), [.t 27]⟩,
 ⟨some 29, none, .mov, [.t 1]⟩,
 ⟨some 30, none, .callv, [.t 24, .t 28, .t 29]⟩,
 ⟨some 31, none, .bin .lss .scal, [.t 30, .c (.int .i64 0)]⟩])
 (.cond (.t 31)
 (.reg []
 [⟨some 32, none, .mov, [.t 11]⟩,
 ⟨some 33, none, .bin .add .scal, [.t 32, .c (.int .i64 1)]⟩,
 ⟨some 9, none, .mov, [.t 33]⟩])
 (.reg []
 [⟨some 34, none, .mov, [.t 11]⟩,
 ⟨some 10, none, .mov, [.t 34]⟩])))))
/-- "slices.BinarySearchFunc[[]crossroads/plist.Rule,crossroads/plist.Rule,int]": 49 temporaries, 3 parameters, results some [.t 6, .t 7]. -/
def ac74 : AC :=
 .seq (.reg []
 [⟨some 6, none, .mov, [.c (.int .i64 0)]⟩,
 ⟨some 7, none, .mov, [.c (.bool false)]⟩])
 (.seq (.reg []
 [⟨some 12, none, .mov, [.t 0]⟩,
 ⟨some 13, none, .lenL, [.t 12]⟩,
 ⟨some 8, none, .mov, [.t 13]⟩])
 (.seq (.reg []
 [⟨some 14, none, .mov, [.t 8]⟩,
 ⟨some 9, none, .mov, [.c (.int .i64 0)]⟩,
 ⟨some 10, none, .mov, [.t 14]⟩])
 (.seq (.block 0 (.loop ac74_1))
 (.seq (.reg []
 [⟨some 35, none, .mov, [.t 9]⟩,
 ⟨some 36, none, .mov, [.t 9]⟩,
 ⟨some 37, none, .mov, [.t 8]⟩,
 ⟨some 38, none, .bin .lss .scal, [.t 36, .t 37]⟩,
 ⟨some 39, none, .mov, [.t 38]⟩,
 ⟨some 40, some (39, true), .mov, [.t 2]⟩,
 ⟨some 41, some (39, true), .mov, [.t 0]⟩,
 ⟨some 42, some (39, true), .mov, [.t 9]⟩,
 ⟨some 43, some (39, true), .idxA 6, [.t 41, .t 42]⟩,
 ⟨some 44, some (39, true), .load (some 6), [.t 43]⟩,
 ⟨some 45, some (39, true), .mov, [.t 1]⟩,
 ⟨some 46, some (39, true), .callv, [.t 40, .t 44, .t 45]⟩,
 ⟨some 47, some (39, true), .bin .eql .scal, [.t 46, .c (.int .i64 0)]⟩,
 ⟨some 48, none, .pick, [.t 39, .t 47, .c (.bool false)]⟩,
 ⟨some 6, none, .mov, [.t 35]⟩,
 ⟨some 7, none, .mov, [.t 48]⟩])
 .ret))))
theorem i74 : fnInfo Tryz.prog 74 = some (49, [.t 6, .t 7], ac74) := by kernel_rfl
/-- "crossroads/plist.find$1": 9 temporaries, 2 parameters, results some [.t 4]. -/
def ac75 : AC :=
 .seq (.reg []
 [⟨some 2, none, .box, [.t 0]⟩,
 ⟨some 4, none, .mov, [.c (.int .i64 0)]⟩])
 (.seq (.reg []
 [⟨some 5, none, .fldA 0, [.t 2]⟩,
 ⟨some 6, none, .load none, [.t 5]⟩,
 ⟨some 7, none, .mov, [.t 1]⟩,
 ⟨some 8, none, .bin .sub .scal, [.t 6, .t 7]⟩,
 ⟨some 4, none, .mov, [.t 8]⟩])
 .ret)
theorem i75 : fnInfo Tryz.prog 75 = some (9, [.t 4], ac75) := by kernel_rfl
/-- "crossroads/addr.number$1": 9 temporaries, 1 parameters, results some [.t 2]. -/
def ac91 : AC :=
 .seq (.reg []
 [⟨some 2, none, .mov, [.c (.bool false)]⟩])
 (.seq (.reg []
 [⟨some 3, none, .mov, [.t 0]⟩,
 ⟨some 4, none, .bin .lss .scal, [.t 3, .c (.int .i32 48)]⟩,
 ⟨some 5, none, .mov, [.t 4]⟩,
 ⟨some 6, some (5, false), .mov, [.t 0]⟩,
 ⟨some 7, some (5, false), .bin .gtr .scal, [.t 6, .c (.int .i32 57)]⟩,
 ⟨some 8, none, .pick, [.t 5, .c (.bool true), .t 7]⟩,
 ⟨some 2, none, .mov, [.t 8]⟩])
 .ret)
theorem i91 : fnInfo Tryz.prog 91 = some (9, [.t 2], ac91) := by kernel_rfl
end Go.Proofs.YtjcpkgnlnmajjaaGreatDoor.Abs

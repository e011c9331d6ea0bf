/- The functions of the program as the abstract machine's code: each is what the model's code is turned into. -/
import Derived.Test.YtakallenldpkiaaA20
import Derived.Test.YtakallenldpkiaaP0
import Derived.Test.YtakallenldpkiaaProg
import Derived.KernelRfl
namespace Go.Proofs.Ytakallenldpkiaa.Abs
open Go

theorem mixed : Try.prog.follows .mixedOrders = true := by kernel_rfl

def ac3_1 : AC :=
 .seq (.seq (.reg []
 [⟨some 24, none, .mov, [.t 8]⟩,
 ⟨some 25, none, .mov, [.t 7]⟩,
 ⟨some 26, none, .bin .lss .scal, [.t 24, .t 25]⟩])
 (.cond (.t 26)
 .skip
 (.exit 0)))
 (.seq (.block 1 (.seq (.reg []
 [⟨some 29, none, .mov, [.t 5]⟩,
 ⟨some 30, none, .mov, [.t 0]⟩,
 ⟨some 31, none, .mov, [.t 8]⟩,
 ⟨some 32, none, .idxA 5, [.t 30, .t 31]⟩,
 ⟨some 33, none, .fldA 1, [.t 32]⟩,
 ⟨some 34, none, .load (some 2), [.t 33]⟩,
 ⟨some 35, none, .call 10, [.t 29, .t 34, .c (.int .i64 7)]⟩])
 (.seq (.reg []
 [⟨some 36, none, .mov, [.t 6]⟩,
 ⟨some 37, none, .mov, [.t 0]⟩,
 ⟨some 38, none, .mov, [.t 7]⟩,
 ⟨some 39, none, .bin .sub .scal, [.t 38, .c (.int .i64 1)]⟩,
 ⟨some 40, none, .mov, [.t 8]⟩,
 ⟨some 41, none, .bin .sub .scal, [.t 39, .t 40]⟩,
 ⟨some 42, none, .idxA 5, [.t 37, .t 41]⟩,
 ⟨some 43, none, .fldA 1, [.t 42]⟩,
 ⟨some 44, none, .load (some 2), [.t 43]⟩,
 ⟨some 45, none, .call 10, [.t 36, .t 44, .c (.int .i64 7)]⟩])
 (.reg []
 [⟨some 46, none, .mov, [.t 6]⟩,
 ⟨some 47, none, .mov, [.t 0]⟩,
 ⟨some 48, none, .mov, [.t 7]⟩,
 ⟨some 49, none, .bin .sub .scal, [.t 48, .c (.int .i64 1)]⟩,
 ⟨some 50, none, .mov, [.t 8]⟩,
 ⟨some 51, none, .bin .sub .scal, [.t 49, .t 50]⟩,
 ⟨some 52, none, .idxA 5, [.t 47, .t 51]⟩,
 ⟨some 53, none, .fldA 1, [.t 52]⟩,
 ⟨some 54, none, .load (some 2), [.t 53]⟩,
 ⟨some 55, none, .call 10, [.t 46, .t 54, .c (.int .i64 7)]⟩]))))
 (.reg []
 [⟨some 27, none, .mov, [.t 8]⟩,
 ⟨some 28, none, .bin .add .scal, [.t 27, .c (.int .i64 1)]⟩,
 ⟨some 8, none, .mov, [.t 28]⟩]))
/-- "crossroads/crossroadslaw06.TrieAlike": 93 temporaries, 2 parameters, results some [.t 4]. -/
def ac3 : AC :=
 .seq (.reg []
 [⟨some 4, none, .mov, [.c (.bool false)]⟩])
 (.seq (.reg []
 [⟨some 13, none, .call 9, []⟩,
 ⟨some 14, none, .call 9, []⟩,
 ⟨some 5, none, .mov, [.t 13]⟩,
 ⟨some 6, none, .mov, [.t 14]⟩])
 (.seq (.seq (.reg []
 [⟨some 15, none, .mov, [.t 5]⟩,
 ⟨some 16, none, .bin .eql .ptr, [.t 15, .c .nilp]⟩,
 ⟨some 17, none, .mov, [.t 16]⟩,
 ⟨some 18, some (17, false), .mov, [.t 6]⟩,
 ⟨some 19, some (17, false), .bin .eql .ptr, [.t 18, .c .nilp]⟩,
 ⟨some 20, none, .pick, [.t 17, .c (.bool true), .t 19]⟩])
 (.cond (.t 20)
 (.seq (.reg []
 [⟨some 4, none, .mov, [.c (.bool false)]⟩])
 .ret)
 .skip))
 (.seq (.reg []
 [⟨some 21, none, .mov, [.t 0]⟩,
 ⟨some 22, none, .lenL, [.t 21]⟩,
 ⟨some 23, none, .minmax false, [.t 22, .c (.int .i64 150)]⟩,
 ⟨some 7, none, .mov, [.t 23]⟩])
 (.seq (.seq (.reg []
 [⟨some 8, none, .mov, [.c (.int .i64 0)]⟩])
 (.block 0 (.loop ac3_1)))
 (.seq (.reg []
 [⟨some 57, none, .mov, [.t 5]⟩,
 ⟨some 58, none, .mov, [.t 1]⟩,
 ⟨some 59, none, .call 11, [.t 57, .t 58]⟩,
 ⟨some 56, none, .mov, [.t 59]⟩,
 ⟨some 60, none, .ext 0, [.t 56]⟩,
 ⟨some 61, none, .ext 1, [.t 56]⟩,
 ⟨some 9, none, .alloc [.int .u32 0, .int .i64 0, .int .i64 0], []⟩,
 ⟨none, none, .store 3, [.t 9, .t 60]⟩,
 ⟨some 10, none, .mov, [.t 61]⟩])
 (.seq (.reg []
 [⟨some 63, none, .mov, [.t 6]⟩,
 ⟨some 64, none, .mov, [.t 1]⟩,
 ⟨some 65, none, .call 11, [.t 63, .t 64]⟩,
 ⟨some 62, none, .mov, [.t 65]⟩,
 ⟨some 66, none, .ext 0, [.t 62]⟩,
 ⟨some 67, none, .ext 1, [.t 62]⟩,
 ⟨some 11, none, .alloc [.int .u32 0, .int .i64 0, .int .i64 0], []⟩,
 ⟨none, none, .store 3, [.t 11, .t 66]⟩,
 ⟨some 12, none, .mov, [.t 67]⟩])
 (.seq (.reg []
 [⟨some 68, none, .call 12, []⟩,
 ⟨some 69, none, .mov, [.t 68]⟩,
 ⟨some 70, some (69, true), .mov, [.t 5]⟩,
 ⟨some 71, some (69, true), .call 14, [.t 70]⟩,
 ⟨some 72, some (69, true), .mov, [.t 6]⟩,
 ⟨some 73, some (69, true), .call 14, [.t 72]⟩,
 ⟨some 74, some (69, true), .call 13, [.t 71, .t 73]⟩,
 ⟨some 75, none, .pick, [.t 69, .t 74, .c (.bool false)]⟩,
 ⟨some 76, none, .mov, [.t 75]⟩,
 ⟨some 77, some (76, true), .load (some 3), [.t 9]⟩,
 ⟨some 78, some (76, true), .load (some 3), [.t 11]⟩,
 ⟨some 79, some (76, true), .bin .eql (.flat [.int .u32, .int .i64, .int .i64]), [.t 77, .t 78]⟩,
 ⟨some 80, none, .pick, [.t 76, .t 79, .c (.bool false)]⟩,
 ⟨some 81, none, .mov, [.t 80]⟩,
 ⟨some 82, some (81, true), .mov, [.t 10]⟩,
 ⟨some 83, some (81, true), .mov, [.t 12]⟩,
 ⟨some 84, some (81, true), .bin .eql .bool, [.t 82, .t 83]⟩,
 ⟨some 85, none, .pick, [.t 81, .t 84, .c (.bool false)]⟩,
 ⟨some 86, none, .mov, [.t 85]⟩,
 ⟨some 87, some (86, true), .mov, [.t 5]⟩,
 ⟨some 88, some (86, true), .call 15, [.t 87]⟩,
 ⟨some 89, some (86, true), .mov, [.t 6]⟩,
 ⟨some 90, some (86, true), .call 15, [.t 89]⟩,
 ⟨some 91, some (86, true), .bin .eql .scal, [.t 88, .t 90]⟩,
 ⟨some 92, none, .pick, [.t 86, .t 91, .c (.bool false)]⟩,
 ⟨some 4, none, .mov, [.t 92]⟩])
 .ret)))))))
theorem i3 : fnInfo Try.prog 3 = some (93, [.t 4], ac3) := by kernel_rfl
/-- "crossroads/trie.New": 3 temporaries, 0 parameters, results some [.t 0]. -/
def ac9 : AC :=
 .seq (.reg []
 [⟨some 0, none, .mov, [.c .nilp]⟩])
 (.seq (.reg []
 [⟨some 1, none, .build [.nils, .nils, .int .i64 0, .int .i64 0] [(2, 1)], [.c (.int .i64 (-1))]⟩,
 ⟨some 2, none, .box, [.t 1]⟩,
 ⟨some 0, none, .mov, [.t 2]⟩])
 .ret)
theorem i9 : fnInfo Try.prog 9 = some (3, [.t 0], ac9) := by kernel_rfl
/-- "(*crossroads/trie.Trie).Set": 42 temporaries, 3 parameters, results some [.t 6]. -/
def ac10 : AC :=
 .seq (.reg []
 [⟨some 4, none, .box, [.t 1]⟩,
 ⟨some 6, none, .mov, [.c (.int .i64 0)]⟩])
 (.seq (.seq (.reg []
 [⟨some 9, none, .mov, [.t 0]⟩,
 ⟨some 10, none, .bin .eql .ptr, [.t 9, .c .nilp]⟩,
 ⟨some 11, none, .mov, [.t 10]⟩,
 ⟨some 12, some (11, false), .load (some 2), [.t 4]⟩,
 ⟨some 13, some (11, false), .call 30, [.t 12]⟩,
 ⟨some 14, some (11, false), .unNot, [.t 13]⟩,
 ⟨some 15, none, .pick, [.t 11, .c (.bool true), .t 14]⟩])
 (.cond (.t 15)
 (.seq (.reg []
 [⟨some 6, none, .mov, [.c (.int .i64 1)]⟩])
 .ret)
 .skip))
 (.seq (.seq (.reg []
 [⟨some 17, none, .mov, [.t 0]⟩,
 ⟨some 18, none, .load (some 2), [.t 4]⟩,
 ⟨some 19, none, .call 25, [.t 17, .t 18]⟩,
 ⟨some 16, none, .mov, [.t 19]⟩,
 ⟨some 20, none, .ext 0, [.t 16]⟩,
 ⟨some 21, none, .ext 1, [.t 16]⟩,
 ⟨some 7, none, .mov, [.t 20]⟩,
 ⟨some 8, none, .mov, [.t 21]⟩])
 (.seq (.reg []
 [⟨some 22, none, .mov, [.t 8]⟩,
 ⟨some 23, none, .unNot, [.t 22]⟩,
 ⟨some 24, none, .mov, [.t 23]⟩,
 ⟨some 25, some (24, true), .mov, [.t 0]⟩,
 ⟨some 26, some (24, true), .nilchk, [.t 25]⟩,
 ⟨some 27, some (24, true), .fldA 3, [.t 26]⟩,
 ⟨some 28, some (24, true), .load none, [.t 27]⟩,
 ⟨some 29, some (24, true), .bin .geq .scal, [.t 28, .c (.int .i64 5000)]⟩,
 ⟨some 30, none, .pick, [.t 24, .t 29, .c (.bool false)]⟩])
 (.cond (.t 30)
 (.seq (.reg []
 [⟨some 6, none, .mov, [.c (.int .i64 8)]⟩])
 .ret)
 .skip)))
 (.seq (.reg [[], [], [], [2], [3], [4], [], [], [1, 5, 6, 7], [0, 0, 1, 2, 3, 4, 5, 6, 7, 8], [9, 0, 1, 2, 3, 4, 5, 6, 7, 8], [10, 8, 8, 0, 1, 2, 3, 4, 5, 6, 7, 8]]
 [⟨some 31, none, .mov, [.t 0]⟩,
 ⟨some 32, none, .mov, [.t 0]⟩,
 ⟨some 33, none, .mov, [.t 0]⟩,
 ⟨some 34, none, .nilchk, [.t 33]⟩,
 ⟨some 35, none, .fldA 2, [.t 34]⟩,
 ⟨some 36, none, .load none, [.t 35]⟩,
 ⟨some 37, none, .load (some 2), [.t 4]⟩,
 ⟨some 38, none, .mov, [.t 2]⟩,
 ⟨some 39, none, .call 31, [.t 32, .t 36, .t 37, .t 38]⟩,
 ⟨some 40, none, .nilchk, [.t 31]⟩,
 ⟨some 41, none, .fldA 2, [.t 40]⟩,
 ⟨none, none, .store 1, [.t 41, .t 39]⟩])
 (.seq (.reg []
 [⟨some 6, none, .mov, [.c (.int .i64 0)]⟩])
 .ret))))
theorem i10 : fnInfo Try.prog 10 = some (42, [.t 6], ac10) := by kernel_rfl
/-- "(*crossroads/trie.Trie).Find": 21 temporaries, 2 parameters, results some [.c 4 (some 3), .t 5]. -/
def ac11 : AC :=
 .seq (.reg []
 [⟨some 4, none, .alloc [.int .u32 0, .int .i64 0, .int .i64 0], []⟩,
 ⟨some 5, none, .mov, [.c (.bool false)]⟩])
 (.seq (.reg []
 [⟨some 7, none, .mov, [.t 0]⟩,
 ⟨some 8, none, .mov, [.t 1]⟩,
 ⟨some 9, none, .build [.int .u32 0, .int .i64 0] [(0, 1), (1, 1)], [.t 8, .c (.int .i64 32)]⟩,
 ⟨some 10, none, .call 22, [.t 7, .t 9]⟩,
 ⟨some 6, none, .mov, [.t 10]⟩])
 (.seq (.seq (.reg []
 [⟨some 11, none, .mov, [.t 6]⟩,
 ⟨some 12, none, .lenL, [.t 11]⟩,
 ⟨some 13, none, .bin .eql .scal, [.t 12, .c (.int .i64 0)]⟩])
 (.cond (.t 13)
 (.seq (.reg []
 [⟨some 14, none, .build [.int .u32 0, .int .i64 0, .int .i64 0] [], []⟩,
 ⟨none, none, .store 3, [.t 4, .t 14]⟩,
 ⟨some 5, none, .mov, [.c (.bool false)]⟩])
 .ret)
 .skip))
 (.seq (.reg []
 [⟨some 15, none, .mov, [.t 6]⟩,
 ⟨some 16, none, .mov, [.t 6]⟩,
 ⟨some 17, none, .lenL, [.t 16]⟩,
 ⟨some 18, none, .bin .sub .scal, [.t 17, .c (.int .i64 1)]⟩,
 ⟨some 19, none, .idxA 3, [.t 15, .t 18]⟩,
 ⟨some 20, none, .load (some 3), [.t 19]⟩,
 ⟨none, none, .store 3, [.t 4, .t 20]⟩,
 ⟨some 5, none, .mov, [.c (.bool true)]⟩])
 .ret)))
theorem i11 : fnInfo Try.prog 11 = some (21, [.c 4 (some 3), .t 5], ac11) := by kernel_rfl
/-- "crossroads/crossroadslaw06.alive": 54 temporaries, 0 parameters, results some [.t 0]. -/
def ac12 : AC :=
 .seq (.reg []
 [⟨some 0, none, .mov, [.c (.bool false)]⟩])
 (.seq (.reg []
 [⟨some 8, none, .call 9, []⟩,
 ⟨some 1, none, .mov, [.t 8]⟩])
 (.seq (.seq (.reg []
 [⟨some 9, none, .mov, [.t 1]⟩,
 ⟨some 10, none, .bin .eql .ptr, [.t 9, .c .nilp]⟩])
 (.cond (.t 10)
 (.seq (.reg []
 [⟨some 0, none, .mov, [.c (.bool false)]⟩])
 .ret)
 .skip))
 (.seq (.reg []
 [⟨some 11, none, .mov, [.t 1]⟩,
 ⟨some 12, none, .build [.int .u32 0, .int .i64 0] [], []⟩,
 ⟨some 13, none, .call 10, [.t 11, .t 12, .c (.int .i64 1)]⟩,
 ⟨some 14, none, .mov, [.t 1]⟩,
 ⟨some 15, none, .build [.int .u32 0, .int .i64 0] [(0, 1), (1, 1)], [.c (.int .u32 167772160), .c (.int .i64 8)]⟩,
 ⟨some 16, none, .call 10, [.t 14, .t 15, .c (.int .i64 2)]⟩,
 ⟨some 2, none, .mov, [.t 13]⟩,
 ⟨some 3, none, .mov, [.t 16]⟩])
 (.seq (.reg []
 [⟨some 18, none, .mov, [.t 1]⟩,
 ⟨some 19, none, .call 11, [.t 18, .c (.int .u32 167772165)]⟩,
 ⟨some 17, none, .mov, [.t 19]⟩,
 ⟨some 20, none, .ext 0, [.t 17]⟩,
 ⟨some 21, none, .ext 1, [.t 17]⟩,
 ⟨some 4, none, .alloc [.int .u32 0, .int .i64 0, .int .i64 0], []⟩,
 ⟨none, none, .store 3, [.t 4, .t 20]⟩,
 ⟨some 5, none, .mov, [.t 21]⟩])
 (.seq (.reg []
 [⟨some 23, none, .mov, [.t 1]⟩,
 ⟨some 24, none, .call 11, [.t 23, .c (.int .u32 184549376)]⟩,
 ⟨some 22, none, .mov, [.t 24]⟩,
 ⟨some 25, none, .ext 0, [.t 22]⟩,
 ⟨some 26, none, .ext 1, [.t 22]⟩,
 ⟨some 6, none, .alloc [.int .u32 0, .int .i64 0, .int .i64 0], []⟩,
 ⟨none, none, .store 3, [.t 6, .t 25]⟩,
 ⟨some 7, none, .mov, [.t 26]⟩])
 (.seq (.reg []
 [⟨some 27, none, .mov, [.t 2]⟩,
 ⟨some 28, none, .bin .eql .scal, [.t 27, .c (.int .i64 0)]⟩,
 ⟨some 29, none, .mov, [.t 28]⟩,
 ⟨some 30, some (29, true), .mov, [.t 3]⟩,
 ⟨some 31, some (29, true), .bin .eql .scal, [.t 30, .c (.int .i64 0)]⟩,
 ⟨some 32, none, .pick, [.t 29, .t 31, .c (.bool false)]⟩,
 ⟨some 33, none, .mov, [.t 32]⟩,
 ⟨some 34, some (33, true), .mov, [.t 5]⟩,
 ⟨some 35, none, .pick, [.t 33, .t 34, .c (.bool false)]⟩,
 ⟨some 36, none, .mov, [.t 35]⟩,
 ⟨some 37, some (36, true), .fldA 2, [.t 4]⟩,
 ⟨some 38, some (36, true), .load none, [.t 37]⟩,
 ⟨some 39, some (36, true), .bin .eql .scal, [.t 38, .c (.int .i64 2)]⟩,
 ⟨some 40, none, .pick, [.t 36, .t 39, .c (.bool false)]⟩,
 ⟨some 41, none, .mov, [.t 40]⟩,
 ⟨some 42, some (41, true), .mov, [.t 7]⟩,
 ⟨some 43, none, .pick, [.t 41, .t 42, .c (.bool false)]⟩,
 ⟨some 44, none, .mov, [.t 43]⟩,
 ⟨some 45, some (44, true), .fldA 2, [.t 6]⟩,
 ⟨some 46, some (44, true), .load none, [.t 45]⟩,
 ⟨some 47, some (44, true), .bin .eql .scal, [.t 46, .c (.int .i64 1)]⟩,
 ⟨some 48, none, .pick, [.t 44, .t 47, .c (.bool false)]⟩,
 ⟨some 49, none, .mov, [.t 48]⟩,
 ⟨some 50, some (49, true), .mov, [.t 1]⟩,
 ⟨some 51, some (49, true), .call 15, [.t 50]⟩,
 ⟨some 52, some (49, true), .bin .eql .scal, [.t 51, .c (.int .i64 2)]⟩,
 ⟨some 53, none, .pick, [.t 49, .t 52, .c (.bool false)]⟩,
 ⟨some 0, none, .mov, [.t 53]⟩])
 .ret))))))
theorem i12 : fnInfo Try.prog 12 = some (54, [.t 0], ac12) := by kernel_rfl
def ac13_1 : AC :=
 .seq (.seq (.reg []
 [⟨some 11, none, .mov, [.t 5]⟩,
 ⟨some 12, none, .mov, [.t 0]⟩,
 ⟨some 13, none, .lenL, [.t 12]⟩,
 ⟨some 14, none, .bin .lss .scal, [.t 11, .t 13]⟩])
 (.cond (.t 14)
 .skip
 (.exit 0)))
 (.seq (.block 1 (.seq (.reg [[], [], [0, 1], [2], [], [], [4, 5], [6], [3, 7]]
 [⟨some 17, none, .mov, [.t 0]⟩,
 ⟨some 18, none, .mov, [.t 5]⟩,
 ⟨some 19, none, .idxA 3, [.t 17, .t 18]⟩,
 ⟨some 20, none, .load (some 3), [.t 19]⟩,
 ⟨some 21, none, .mov, [.t 1]⟩,
 ⟨some 22, none, .mov, [.t 5]⟩,
 ⟨some 23, none, .idxA 3, [.t 21, .t 22]⟩,
 ⟨some 24, none, .load (some 3), [.t 23]⟩,
 ⟨some 25, none, .bin .neq (.flat [.int .u32, .int .i64, .int .i64]), [.t 20, .t 24]⟩])
 (.cond (.t 25)
 (.seq (.reg []
 [⟨some 4, none, .mov, [.c (.bool false)]⟩])
 .ret)
 .skip)))
 (.reg []
 [⟨some 15, none, .mov, [.t 5]⟩,
 ⟨some 16, none, .bin .add .scal, [.t 15, .c (.int .i64 1)]⟩,
 ⟨some 5, none, .mov, [.t 16]⟩]))
/-- "crossroads/crossroadsref06.Same": 26 temporaries, 2 parameters, results some [.t 4]. -/
def ac13 : AC :=
 .seq (.reg []
 [⟨some 4, none, .mov, [.c (.bool false)]⟩])
 (.seq (.seq (.reg []
 [⟨some 6, none, .mov, [.t 0]⟩,
 ⟨some 7, none, .lenL, [.t 6]⟩,
 ⟨some 8, none, .mov, [.t 1]⟩,
 ⟨some 9, none, .lenL, [.t 8]⟩,
 ⟨some 10, none, .bin .neq .scal, [.t 7, .t 9]⟩])
 (.cond (.t 10)
 (.seq (.reg []
 [⟨some 4, none, .mov, [.c (.bool false)]⟩])
 .ret)
 .skip))
 (.seq (.seq (.reg []
 [⟨some 5, none, .mov, [.c (.int .i64 0)]⟩])
 (.block 0 (.loop ac13_1)))
 (.seq (.reg []
 [⟨some 4, none, .mov, [.c (.bool true)]⟩])
 .ret)))
theorem i13 : fnInfo Try.prog 13 = some (26, [.t 4], ac13) := by kernel_rfl
/-- "(*crossroads/trie.Trie).Walk": 6 temporaries, 1 parameters, results some [.t 2]. -/
def ac14 : AC :=
 .seq (.reg []
 [⟨some 2, none, .mov, [.c .nils]⟩])
 (.seq (.reg []
 [⟨some 3, none, .mov, [.t 0]⟩,
 ⟨some 4, none, .build [.int .u32 0, .int .i64 0] [], []⟩,
 ⟨some 5, none, .call 20, [.t 3, .t 4]⟩,
 ⟨some 2, none, .mov, [.t 5]⟩])
 .ret)
theorem i14 : fnInfo Try.prog 14 = some (6, [.t 2], ac14) := by kernel_rfl
/-- "(*crossroads/trie.Trie).Len": 9 temporaries, 1 parameters, results some [.t 2]. -/
def ac15 : AC :=
 .seq (.reg []
 [⟨some 2, none, .mov, [.c (.int .i64 0)]⟩])
 (.seq (.seq (.reg []
 [⟨some 3, none, .mov, [.t 0]⟩,
 ⟨some 4, none, .bin .eql .ptr, [.t 3, .c .nilp]⟩])
 (.cond (.t 4)
 (.seq (.reg []
 [⟨some 2, none, .mov, [.c (.int .i64 0)]⟩])
 .ret)
 .skip))
 (.seq (.reg []
 [⟨some 5, none, .mov, [.t 0]⟩,
 ⟨some 6, none, .nilchk, [.t 5]⟩,
 ⟨some 7, none, .fldA 3, [.t 6]⟩,
 ⟨some 8, none, .load none, [.t 7]⟩,
 ⟨some 2, none, .mov, [.t 8]⟩])
 .ret))
theorem i15 : fnInfo Try.prog 15 = some (9, [.t 2], ac15) := by kernel_rfl
/-- "(*crossroads/trie.Trie).Below": 22 temporaries, 2 parameters, results some [.t 4]. -/
def ac20 : AC :=
 .seq (.reg []
 [⟨some 2, none, .box, [.t 0]⟩,
 ⟨some 3, none, .box, [.t 1]⟩,
 ⟨some 4, none, .mov, [.c .nils]⟩])
 (.seq (.seq (.reg []
 [⟨some 7, none, .load none, [.t 2]⟩,
 ⟨some 8, none, .bin .eql .ptr, [.t 7, .c .nilp]⟩,
 ⟨some 9, none, .mov, [.t 8]⟩,
 ⟨some 10, some (9, false), .load (some 2), [.t 3]⟩,
 ⟨some 11, some (9, false), .call 30, [.t 10]⟩,
 ⟨some 12, some (9, false), .unNot, [.t 11]⟩,
 ⟨some 13, none, .pick, [.t 9, .c (.bool true), .t 12]⟩])
 (.cond (.t 13)
 (.seq (.reg []
 [⟨some 4, none, .mov, [.c .nils]⟩])
 .ret)
 .skip))
 (.seq (.reg []
 [⟨some 5, none, .alloc [.nils], []⟩])
 (.seq (.reg []
 [⟨some 6, none, .alloc [.nilf], []⟩])
 (.seq (.reg []
 [⟨some 14, none, .mkfn 33 0, [.t 2, .t 3, .t 5, .t 6]⟩,
 ⟨none, none, .store 1, [.t 6, .t 14]⟩])
 (.seq (.reg [[], [], [1], [2], [3], [0, 4]]
 [⟨some 15, none, .load none, [.t 6]⟩,
 ⟨some 16, none, .load none, [.t 2]⟩,
 ⟨some 17, none, .nilchk, [.t 16]⟩,
 ⟨some 18, none, .fldA 2, [.t 17]⟩,
 ⟨some 19, none, .load none, [.t 18]⟩,
 ⟨some 20, none, .callv, [.t 15, .t 19]⟩])
 (.seq (.reg []
 [⟨some 21, none, .load none, [.t 5]⟩,
 ⟨some 4, none, .mov, [.t 21]⟩])
 .ret))))))
theorem i20 : fnInfo Try.prog 20 = some (22, [.t 4], ac20) := by kernel_rfl
/-- "(*crossroads/trie.Trie).Above": 11 temporaries, 2 parameters, results some [.t 4]. -/
def ac22 : AC :=
 .seq (.reg []
 [⟨some 3, none, .box, [.t 1]⟩,
 ⟨some 4, none, .mov, [.c .nils]⟩])
 (.seq (.reg []
 [⟨some 5, none, .alloc [.nils], []⟩])
 (.seq (.reg []
 [⟨some 6, none, .mov, [.t 0]⟩,
 ⟨some 7, none, .load (some 2), [.t 3]⟩,
 ⟨some 8, none, .mkfn 37 0, [.t 5]⟩,
 ⟨some 9, none, .call 36, [.t 6, .t 7, .t 8]⟩])
 (.seq (.reg []
 [⟨some 10, none, .load none, [.t 5]⟩,
 ⟨some 4, none, .mov, [.t 10]⟩])
 .ret)))
theorem i22 : fnInfo Try.prog 22 = some (11, [.t 4], ac22) := by kernel_rfl
/-- "(*crossroads/trie.Trie).Get": 31 temporaries, 2 parameters, results some [.t 4, .t 5]. -/
def ac25 : AC :=
 .seq (.reg []
 [⟨some 3, none, .box, [.t 1]⟩,
 ⟨some 4, none, .mov, [.c (.int .i64 0)]⟩,
 ⟨some 5, none, .mov, [.c (.bool false)]⟩])
 (.seq (.reg []
 [⟨some 7, none, .mov, [.t 0]⟩,
 ⟨some 8, none, .load (some 2), [.t 3]⟩,
 ⟨some 9, none, .call 22, [.t 7, .t 8]⟩,
 ⟨some 6, none, .mov, [.t 9]⟩])
 (.seq (.seq (.reg [[], [0], [1], [2], [3], [3], [5, 3], [6, 3], [4, 7, 3], [8, 3], [9, 3], [3], [10, 11, 3], [3, 12]]
 [⟨some 10, none, .mov, [.t 6]⟩,
 ⟨some 11, none, .lenL, [.t 10]⟩,
 ⟨some 12, none, .bin .eql .scal, [.t 11, .c (.int .i64 0)]⟩,
 ⟨some 13, none, .mov, [.t 12]⟩,
 ⟨some 14, some (13, false), .mov, [.t 6]⟩,
 ⟨some 15, some (13, false), .mov, [.t 6]⟩,
 ⟨some 16, some (13, false), .lenL, [.t 15]⟩,
 ⟨some 17, some (13, false), .bin .sub .scal, [.t 16, .c (.int .i64 1)]⟩,
 ⟨some 18, some (13, false), .idxA 3, [.t 14, .t 17]⟩,
 ⟨some 19, some (13, false), .fldA 0, [.t 18]⟩,
 ⟨some 20, some (13, false), .load (some 2), [.t 19]⟩,
 ⟨some 21, some (13, false), .load (some 2), [.t 3]⟩,
 ⟨some 22, some (13, false), .bin .neq (.flat [.int .u32, .int .i64]), [.t 20, .t 21]⟩,
 ⟨some 23, none, .pick, [.t 13, .c (.bool true), .t 22]⟩])
 (.cond (.t 23)
 (.seq (.reg []
 [⟨some 4, none, .mov, [.c (.int .i64 0)]⟩,
 ⟨some 5, none, .mov, [.c (.bool false)]⟩])
 .ret)
 .skip))
 (.seq (.reg []
 [⟨some 24, none, .mov, [.t 6]⟩,
 ⟨some 25, none, .mov, [.t 6]⟩,
 ⟨some 26, none, .lenL, [.t 25]⟩,
 ⟨some 27, none, .bin .sub .scal, [.t 26, .c (.int .i64 1)]⟩,
 ⟨some 28, none, .idxA 3, [.t 24, .t 27]⟩,
 ⟨some 29, none, .fldA 2, [.t 28]⟩,
 ⟨some 30, none, .load none, [.t 29]⟩,
 ⟨some 4, none, .mov, [.t 30]⟩,
 ⟨some 5, none, .mov, [.c (.bool true)]⟩])
 .ret)))
theorem i25 : fnInfo Try.prog 25 = some (31, [.t 4, .t 5], ac25) := by kernel_rfl
/-- "crossroads/addr.May": 15 temporaries, 1 parameters, results some [.t 2]. -/
def ac30 : AC :=
 .seq (.reg []
 [⟨some 1, none, .box, [.t 0]⟩,
 ⟨some 2, none, .mov, [.c (.bool false)]⟩])
 (.seq (.reg [[], [0], [1], [2, 2], [3], [4, 3], [3], [6, 3], [7, 3, 3], [5, 8, 3], [9, 3], [3, 10], [11, 8, 0, 1, 2, 3, 4, 5, 6, 7, 8, 9, 10, 11]]
 [⟨some 3, none, .fldA 1, [.t 1]⟩,
 ⟨some 4, none, .load none, [.t 3]⟩,
 ⟨some 5, none, .call 39, [.t 4]⟩,
 ⟨some 6, none, .mov, [.t 5]⟩,
 ⟨some 7, some (6, true), .fldA 0, [.t 1]⟩,
 ⟨some 8, some (6, true), .load none, [.t 7]⟩,
 ⟨some 9, some (6, true), .fldA 1, [.t 1]⟩,
 ⟨some 10, some (6, true), .load none, [.t 9]⟩,
 ⟨some 11, some (6, true), .call 40, [.t 10]⟩,
 ⟨some 12, some (6, true), .bin .andNot .scal, [.t 8, .t 11]⟩,
 ⟨some 13, some (6, true), .bin .eql .scal, [.t 12, .c (.int .u32 0)]⟩,
 ⟨some 14, none, .pick, [.t 6, .t 13, .c (.bool false)]⟩,
 ⟨some 2, none, .mov, [.t 14]⟩])
 .ret)
theorem i30 : fnInfo Try.prog 30 = some (15, [.t 2], ac30) := by kernel_rfl
/-- "(*crossroads/trie.Trie).put": 150 temporaries, 4 parameters, results some [.t 8]. -/
def ac31 : AC :=
 .seq (.reg []
 [⟨some 6, none, .box, [.t 2]⟩,
 ⟨some 8, none, .mov, [.c (.int .i64 0)]⟩])
 (.seq (.seq (.reg []
 [⟨some 14, none, .mov, [.t 1]⟩,
 ⟨some 15, none, .bin .eql .scal, [.t 14, .c (.int .i64 (-1))]⟩])
 (.cond (.t 15)
 (.seq (.reg []
 [⟨some 16, none, .mov, [.t 0]⟩,
 ⟨some 17, none, .nilchk, [.t 16]⟩,
 ⟨some 18, none, .fldA 3, [.t 17]⟩,
 ⟨some 19, none, .load none, [.t 18]⟩,
 ⟨some 20, none, .bin .add .scal, [.t 19, .c (.int .i64 1)]⟩,
 ⟨some 21, none, .nilchk, [.t 16]⟩,
 ⟨some 22, none, .fldA 3, [.t 21]⟩,
 ⟨none, none, .store 1, [.t 22, .t 20]⟩])
 (.seq (.reg []
 [⟨some 23, none, .mov, [.t 0]⟩,
 ⟨some 24, none, .load (some 2), [.t 6]⟩,
 ⟨some 25, none, .mov, [.t 3]⟩,
 ⟨some 26, none, .call 42, [.t 24, .t 25]⟩,
 ⟨some 27, none, .call 41, [.t 23, .t 26]⟩,
 ⟨some 8, none, .mov, [.t 27]⟩])
 .ret))
 .skip))
 (.seq (.reg []
 [⟨some 28, none, .mov, [.t 0]⟩,
 ⟨some 29, none, .nilchk, [.t 28]⟩,
 ⟨some 30, none, .fldA 0, [.t 29]⟩,
 ⟨some 31, none, .load none, [.t 30]⟩,
 ⟨some 32, none, .mov, [.t 1]⟩,
 ⟨some 33, none, .idxA 6, [.t 31, .t 32]⟩,
 ⟨some 34, none, .fldA 0, [.t 33]⟩,
 ⟨some 35, none, .load (some 2), [.t 34]⟩,
 ⟨some 9, none, .alloc [.int .u32 0, .int .i64 0], []⟩,
 ⟨none, none, .store 2, [.t 9, .t 35]⟩])
 (.seq (.block 0 (.seq (.reg []
 [⟨some 37, none, .load (some 2), [.t 9]⟩,
 ⟨some 38, none, .load (some 2), [.t 6]⟩,
 ⟨some 39, none, .bin .eql (.flat [.int .u32, .int .i64]), [.t 37, .t 38]⟩,
 ⟨some 36, none, .mov, [.t 39]⟩])
 (.cond (.t 36)
 (.seq (.seq (.reg []
 [⟨some 40, none, .mov, [.t 0]⟩,
 ⟨some 41, none, .nilchk, [.t 40]⟩,
 ⟨some 42, none, .fldA 0, [.t 41]⟩,
 ⟨some 43, none, .load none, [.t 42]⟩,
 ⟨some 44, none, .mov, [.t 1]⟩,
 ⟨some 45, none, .idxA 6, [.t 43, .t 44]⟩,
 ⟨some 46, none, .fldA 3, [.t 45]⟩,
 ⟨some 47, none, .load none, [.t 46]⟩,
 ⟨some 48, none, .unNot, [.t 47]⟩])
 (.cond (.t 48)
 (.reg []
 [⟨some 49, none, .mov, [.t 0]⟩,
 ⟨some 50, none, .nilchk, [.t 49]⟩,
 ⟨some 51, none, .fldA 3, [.t 50]⟩,
 ⟨some 52, none, .load none, [.t 51]⟩,
 ⟨some 53, none, .bin .add .scal, [.t 52, .c (.int .i64 1)]⟩,
 ⟨some 54, none, .nilchk, [.t 49]⟩,
 ⟨some 55, none, .fldA 3, [.t 54]⟩,
 ⟨none, none, .store 1, [.t 55, .t 53]⟩])
 .skip))
 (.seq (.reg [[], [0], [1], [2], [], [], [5], [6], [7], [], [], [3, 4, 0, 1, 2, 3, 4, 8, 10], [11, 0, 1, 2, 3, 4, 8, 10], [12, 10, 0, 1, 2, 3, 4, 8, 10], [8, 9, 0, 1, 2, 3, 4, 5, 6, 7, 8, 9, 10, 11, 12, 13], [14, 0, 1, 2, 3, 4, 5, 6, 7, 8, 9, 10, 11, 12, 13], [15, 13, 0, 1, 2, 3, 4, 5, 6, 7, 8, 9, 10, 11, 12, 13]]
 [⟨some 56, none, .mov, [.t 0]⟩,
 ⟨some 57, none, .nilchk, [.t 56]⟩,
 ⟨some 58, none, .fldA 0, [.t 57]⟩,
 ⟨some 59, none, .load none, [.t 58]⟩,
 ⟨some 60, none, .mov, [.t 1]⟩,
 ⟨some 61, none, .mov, [.t 0]⟩,
 ⟨some 62, none, .nilchk, [.t 61]⟩,
 ⟨some 63, none, .fldA 0, [.t 62]⟩,
 ⟨some 64, none, .load none, [.t 63]⟩,
 ⟨some 65, none, .mov, [.t 1]⟩,
 ⟨some 66, none, .mov, [.t 3]⟩,
 ⟨some 67, none, .idxA 6, [.t 59, .t 60]⟩,
 ⟨some 68, none, .fldA 2, [.t 67]⟩,
 ⟨none, none, .store 1, [.t 68, .t 66]⟩,
 ⟨some 69, none, .idxA 6, [.t 64, .t 65]⟩,
 ⟨some 70, none, .fldA 3, [.t 69]⟩,
 ⟨none, none, .store 1, [.t 70, .c (.bool true)]⟩])
 (.seq (.reg []
 [⟨some 71, none, .mov, [.t 1]⟩,
 ⟨some 8, none, .mov, [.t 71]⟩])
 .ret)))
 (.seq (.reg []
 [⟨some 73, none, .load (some 2), [.t 9]⟩,
 ⟨some 74, none, .load (some 2), [.t 6]⟩,
 ⟨some 75, none, .call 34, [.t 73, .t 74]⟩,
 ⟨some 72, none, .mov, [.t 75]⟩])
 (.cond (.t 72)
 (.seq (.reg []
 [⟨some 76, none, .load (some 2), [.t 9]⟩,
 ⟨some 77, none, .load (some 2), [.t 6]⟩,
 ⟨some 78, none, .call 43, [.t 76, .t 77]⟩,
 ⟨some 10, none, .mov, [.t 78]⟩])
 (.seq (.reg [[], [], [1], [2], [3], [], [], [4, 5], [7], [8, 6], [9], [], [], [0, 10, 11, 12], [13, 13, 0, 1, 2, 3, 4, 5, 6, 7, 8, 9, 10, 11, 12, 13]]
 [⟨some 79, none, .mov, [.t 0]⟩,
 ⟨some 80, none, .mov, [.t 0]⟩,
 ⟨some 81, none, .nilchk, [.t 80]⟩,
 ⟨some 82, none, .fldA 0, [.t 81]⟩,
 ⟨some 83, none, .load none, [.t 82]⟩,
 ⟨some 84, none, .mov, [.t 1]⟩,
 ⟨some 85, none, .mov, [.t 10]⟩,
 ⟨some 86, none, .idxA 6, [.t 83, .t 84]⟩,
 ⟨some 87, none, .fldA 4, [.t 86]⟩,
 ⟨some 88, none, .idxAA 2 1, [.t 87, .t 85]⟩,
 ⟨some 89, none, .load none, [.t 88]⟩,
 ⟨some 90, none, .load (some 2), [.t 6]⟩,
 ⟨some 91, none, .mov, [.t 3]⟩,
 ⟨some 92, none, .call 31, [.t 79, .t 89, .t 90, .t 91]⟩,
 ⟨some 11, none, .mov, [.t 92]⟩])
 (.seq (.reg []
 [⟨some 93, none, .mov, [.t 0]⟩,
 ⟨some 94, none, .nilchk, [.t 93]⟩,
 ⟨some 95, none, .fldA 0, [.t 94]⟩,
 ⟨some 96, none, .load none, [.t 95]⟩,
 ⟨some 97, none, .mov, [.t 1]⟩,
 ⟨some 98, none, .mov, [.t 10]⟩,
 ⟨some 99, none, .mov, [.t 11]⟩,
 ⟨some 100, none, .idxA 6, [.t 96, .t 97]⟩,
 ⟨some 101, none, .fldA 4, [.t 100]⟩,
 ⟨some 102, none, .idxAA 2 1, [.t 101, .t 98]⟩,
 ⟨none, none, .store 1, [.t 102, .t 99]⟩])
 (.seq (.reg []
 [⟨some 103, none, .mov, [.t 1]⟩,
 ⟨some 8, none, .mov, [.t 103]⟩])
 .ret))))
 .skip)))))
 (.seq (.reg []
 [⟨some 104, none, .mov, [.t 0]⟩,
 ⟨some 105, none, .nilchk, [.t 104]⟩,
 ⟨some 106, none, .fldA 3, [.t 105]⟩,
 ⟨some 107, none, .load none, [.t 106]⟩,
 ⟨some 108, none, .bin .add .scal, [.t 107, .c (.int .i64 1)]⟩,
 ⟨some 109, none, .nilchk, [.t 104]⟩,
 ⟨some 110, none, .fldA 3, [.t 109]⟩,
 ⟨none, none, .store 1, [.t 110, .t 108]⟩])
 (.seq (.reg []
 [⟨some 111, none, .load (some 2), [.t 6]⟩,
 ⟨some 112, none, .mov, [.t 3]⟩,
 ⟨some 113, none, .call 42, [.t 111, .t 112]⟩,
 ⟨some 12, none, .alloc [.int .u32 0, .int .i64 0, .int .i64 0, .bool false, .int .i64 0, .int .i64 0], []⟩,
 ⟨none, none, .store 6, [.t 12, .t 113]⟩])
 (.seq (.seq (.reg []
 [⟨some 114, none, .load (some 2), [.t 6]⟩,
 ⟨some 115, none, .load (some 2), [.t 9]⟩,
 ⟨some 116, none, .call 34, [.t 114, .t 115]⟩])
 (.cond (.t 116)
 (.seq (.reg []
 [⟨some 117, none, .load (some 2), [.t 6]⟩,
 ⟨some 118, none, .load (some 2), [.t 9]⟩,
 ⟨some 119, none, .call 43, [.t 117, .t 118]⟩,
 ⟨some 120, none, .mov, [.t 1]⟩,
 ⟨some 121, none, .fldA 4, [.t 12]⟩,
 ⟨some 122, none, .idxAA 2 1, [.t 121, .t 119]⟩,
 ⟨none, none, .store 1, [.t 122, .t 120]⟩])
 (.seq (.reg []
 [⟨some 123, none, .mov, [.t 0]⟩,
 ⟨some 124, none, .load (some 6), [.t 12]⟩,
 ⟨some 125, none, .call 41, [.t 123, .t 124]⟩,
 ⟨some 8, none, .mov, [.t 125]⟩])
 .ret))
 .skip))
 (.seq (.reg []
 [⟨some 126, none, .load (some 2), [.t 6]⟩,
 ⟨some 127, none, .load (some 2), [.t 9]⟩,
 ⟨some 128, none, .call 44, [.t 126, .t 127]⟩,
 ⟨some 129, none, .build [.int .i64 0, .int .i64 0] [(0, 1), (1, 1)], [.c (.int .i64 (-1)), .c (.int .i64 (-1))]⟩,
 ⟨some 130, none, .build [.int .u32 0, .int .i64 0, .int .i64 0, .bool false, .int .i64 0, .int .i64 0] [(0, 2), (4, 2)], [.t 128, .t 129]⟩,
 ⟨some 13, none, .alloc [.int .u32 0, .int .i64 0, .int .i64 0, .bool false, .int .i64 0, .int .i64 0], []⟩,
 ⟨none, none, .store 6, [.t 13, .t 130]⟩])
 (.seq (.reg []
 [⟨some 131, none, .fldA 0, [.t 13]⟩,
 ⟨some 132, none, .load (some 2), [.t 131]⟩,
 ⟨some 133, none, .load (some 2), [.t 9]⟩,
 ⟨some 134, none, .call 43, [.t 132, .t 133]⟩,
 ⟨some 135, none, .mov, [.t 1]⟩,
 ⟨some 136, none, .fldA 4, [.t 13]⟩,
 ⟨some 137, none, .idxAA 2 1, [.t 136, .t 134]⟩,
 ⟨none, none, .store 1, [.t 137, .t 135]⟩])
 (.seq (.reg [[], [0], [], [1, 2], [], [], [4, 5, 3], [], [7, 3, 0, 1, 2, 3, 4, 5, 6], [8, 6, 6, 0, 1, 2, 3, 4, 5, 6]]
 [⟨some 138, none, .fldA 0, [.t 13]⟩,
 ⟨some 139, none, .load (some 2), [.t 138]⟩,
 ⟨some 140, none, .load (some 2), [.t 6]⟩,
 ⟨some 141, none, .call 43, [.t 139, .t 140]⟩,
 ⟨some 142, none, .mov, [.t 0]⟩,
 ⟨some 143, none, .load (some 6), [.t 12]⟩,
 ⟨some 144, none, .call 41, [.t 142, .t 143]⟩,
 ⟨some 145, none, .fldA 4, [.t 13]⟩,
 ⟨some 146, none, .idxAA 2 1, [.t 145, .t 141]⟩,
 ⟨none, none, .store 1, [.t 146, .t 144]⟩])
 (.seq (.reg []
 [⟨some 147, none, .mov, [.t 0]⟩,
 ⟨some 148, none, .load (some 6), [.t 13]⟩,
 ⟨some 149, none, .call 41, [.t 147, .t 148]⟩,
 ⟨some 8, none, .mov, [.t 149]⟩])
 .ret))))))))))
theorem i31 : fnInfo Try.prog 31 = some (150, [.t 8], ac31) := by kernel_rfl
/-- "(*crossroads/trie.Trie).Below$1": 52 temporaries, 1 parameters, results some []. -/
def ac33 : AC :=
 .seq (.seq (.reg []
 [⟨some 7, none, .mov, [.t 0]⟩,
 ⟨some 8, none, .bin .eql .scal, [.t 7, .c (.int .i64 (-1))]⟩])
 (.cond (.t 8)
 .ret
 .skip))
 (.seq (.reg []
 [⟨some 9, none, .load none, [.t 1]⟩,
 ⟨some 10, none, .nilchk, [.t 9]⟩,
 ⟨some 11, none, .fldA 0, [.t 10]⟩,
 ⟨some 12, none, .load none, [.t 11]⟩,
 ⟨some 13, none, .mov, [.t 0]⟩,
 ⟨some 14, none, .idxA 6, [.t 12, .t 13]⟩,
 ⟨some 15, none, .load (some 6), [.t 14]⟩,
 ⟨some 6, none, .alloc [.int .u32 0, .int .i64 0, .int .i64 0, .bool false, .int .i64 0, .int .i64 0], []⟩,
 ⟨none, none, .store 6, [.t 6, .t 15]⟩])
 (.seq (.seq (.reg []
 [⟨some 16, none, .fldA 3, [.t 6]⟩,
 ⟨some 17, none, .load none, [.t 16]⟩,
 ⟨some 18, none, .mov, [.t 17]⟩,
 ⟨some 19, some (18, true), .load (some 2), [.t 2]⟩,
 ⟨some 20, some (18, true), .fldA 0, [.t 6]⟩,
 ⟨some 21, some (18, true), .load (some 2), [.t 20]⟩,
 ⟨some 22, some (18, true), .call 34, [.t 19, .t 21]⟩,
 ⟨some 23, none, .pick, [.t 18, .t 22, .c (.bool false)]⟩])
 (.cond (.t 23)
 (.reg []
 [⟨some 24, none, .load none, [.t 3]⟩,
 ⟨some 25, none, .fldA 0, [.t 6]⟩,
 ⟨some 26, none, .load (some 2), [.t 25]⟩,
 ⟨some 27, none, .fldA 2, [.t 6]⟩,
 ⟨some 28, none, .load none, [.t 27]⟩,
 ⟨some 29, none, .build [.int .u32 0, .int .i64 0, .int .i64 0] [(0, 2), (2, 1)], [.t 26, .t 28]⟩,
 ⟨some 30, none, .bslice 3 33, [.t 29]⟩,
 ⟨some 31, none, .append 3 33 24, [.t 24, .t 30]⟩,
 ⟨none, none, .store 1, [.t 3, .t 31]⟩])
 .skip))
 (.seq (.reg []
 [⟨some 32, none, .load (some 2), [.t 2]⟩,
 ⟨some 33, none, .fldA 0, [.t 6]⟩,
 ⟨some 34, none, .load (some 2), [.t 33]⟩,
 ⟨some 35, none, .call 34, [.t 32, .t 34]⟩,
 ⟨some 36, none, .mov, [.t 35]⟩,
 ⟨some 37, some (36, false), .fldA 0, [.t 6]⟩,
 ⟨some 38, some (36, false), .load (some 2), [.t 37]⟩,
 ⟨some 39, some (36, false), .load (some 2), [.t 2]⟩,
 ⟨some 40, some (36, false), .call 34, [.t 38, .t 39]⟩,
 ⟨some 41, none, .pick, [.t 36, .c (.bool true), .t 40]⟩])
 (.cond (.t 41)
 (.seq (.reg []
 [⟨some 42, none, .load none, [.t 4]⟩,
 ⟨some 43, none, .fldA 4, [.t 6]⟩,
 ⟨some 44, none, .idxAA 2 1, [.t 43, .c (.int .i64 0)]⟩,
 ⟨some 45, none, .load none, [.t 44]⟩,
 ⟨some 46, none, .callv, [.t 42, .t 45]⟩])
 (.reg []
 [⟨some 47, none, .load none, [.t 4]⟩,
 ⟨some 48, none, .fldA 4, [.t 6]⟩,
 ⟨some 49, none, .idxAA 2 1, [.t 48, .c (.int .i64 1)]⟩,
 ⟨some 50, none, .load none, [.t 49]⟩,
 ⟨some 51, none, .callv, [.t 47, .t 50]⟩]))
 .skip))))
theorem i33 : fnInfo Try.prog 33 = some (52, [], ac33) := by kernel_rfl
/-- "crossroads/addr.Covers": 20 temporaries, 2 parameters, results some [.t 4]. -/
def ac34 : AC :=
 .seq (.reg []
 [⟨some 2, none, .box, [.t 0]⟩,
 ⟨some 3, none, .box, [.t 1]⟩,
 ⟨some 4, none, .mov, [.c (.bool false)]⟩])
 (.seq (.reg []
 [⟨some 5, none, .load (some 2), [.t 3]⟩,
 ⟨some 6, none, .call 30, [.t 5]⟩,
 ⟨some 7, none, .mov, [.t 6]⟩,
 ⟨some 8, some (7, true), .fldA 1, [.t 2]⟩,
 ⟨some 9, some (7, true), .load none, [.t 8]⟩,
 ⟨some 10, some (7, true), .fldA 1, [.t 3]⟩,
 ⟨some 11, some (7, true), .load none, [.t 10]⟩,
 ⟨some 12, some (7, true), .bin .leq .scal, [.t 9, .t 11]⟩,
 ⟨some 13, none, .pick, [.t 7, .t 12, .c (.bool false)]⟩,
 ⟨some 14, none, .mov, [.t 13]⟩,
 ⟨some 15, some (14, true), .load (some 2), [.t 2]⟩,
 ⟨some 16, some (14, true), .fldA 0, [.t 3]⟩,
 ⟨some 17, some (14, true), .load none, [.t 16]⟩,
 ⟨some 18, some (14, true), .call 46, [.t 15, .t 17]⟩,
 ⟨some 19, none, .pick, [.t 14, .t 18, .c (.bool false)]⟩,
 ⟨some 4, none, .mov, [.t 19]⟩])
 .ret)
theorem i34 : fnInfo Try.prog 34 = some (20, [.t 4], ac34) := by kernel_rfl
def ac36_1 : AC :=
 .seq (.seq (.reg [[], [0], [1], [2], [3, 2], [4, 2], [5, 2], [2], [6, 7, 2], [8, 2], [9, 2], [2], [10, 11, 2, 2], [2, 12]]
 [⟨some 14, none, .mov, [.t 6]⟩,
 ⟨some 15, none, .bin .neq .scal, [.t 14, .c (.int .i64 (-1))]⟩,
 ⟨some 16, none, .mov, [.t 15]⟩,
 ⟨some 17, some (16, true), .mov, [.t 0]⟩,
 ⟨some 18, some (16, true), .nilchk, [.t 17]⟩,
 ⟨some 19, some (16, true), .fldA 0, [.t 18]⟩,
 ⟨some 20, some (16, true), .load none, [.t 19]⟩,
 ⟨some 21, some (16, true), .mov, [.t 6]⟩,
 ⟨some 22, some (16, true), .idxA 6, [.t 20, .t 21]⟩,
 ⟨some 23, some (16, true), .fldA 0, [.t 22]⟩,
 ⟨some 24, some (16, true), .load (some 2), [.t 23]⟩,
 ⟨some 25, some (16, true), .load (some 2), [.t 4]⟩,
 ⟨some 26, some (16, true), .call 34, [.t 24, .t 25]⟩,
 ⟨some 27, none, .pick, [.t 16, .t 26, .c (.bool false)]⟩])
 (.cond (.t 27)
 .skip
 (.exit 0)))
 (.block 1 (.seq (.reg []
 [⟨some 28, none, .mov, [.t 0]⟩,
 ⟨some 29, none, .nilchk, [.t 28]⟩,
 ⟨some 30, none, .fldA 0, [.t 29]⟩,
 ⟨some 31, none, .load none, [.t 30]⟩,
 ⟨some 32, none, .mov, [.t 6]⟩,
 ⟨some 33, none, .idxA 6, [.t 31, .t 32]⟩,
 ⟨some 34, none, .load (some 6), [.t 33]⟩,
 ⟨some 7, none, .alloc [.int .u32 0, .int .i64 0, .int .i64 0, .bool false, .int .i64 0, .int .i64 0], []⟩,
 ⟨none, none, .store 6, [.t 7, .t 34]⟩])
 (.seq (.reg []
 [⟨some 35, none, .mov, [.t 2]⟩,
 ⟨some 36, none, .load (some 6), [.t 7]⟩,
 ⟨some 37, none, .callv, [.t 35, .t 36]⟩])
 (.seq (.seq (.reg []
 [⟨some 38, none, .fldA 0, [.t 7]⟩,
 ⟨some 39, none, .fldA 1, [.t 38]⟩,
 ⟨some 40, none, .load none, [.t 39]⟩,
 ⟨some 41, none, .fldA 1, [.t 4]⟩,
 ⟨some 42, none, .load none, [.t 41]⟩,
 ⟨some 43, none, .bin .eql .scal, [.t 40, .t 42]⟩])
 (.cond (.t 43)
 .ret
 .skip))
 (.reg []
 [⟨some 44, none, .fldA 0, [.t 7]⟩,
 ⟨some 45, none, .load (some 2), [.t 44]⟩,
 ⟨some 46, none, .load (some 2), [.t 4]⟩,
 ⟨some 47, none, .call 43, [.t 45, .t 46]⟩,
 ⟨some 48, none, .fldA 4, [.t 7]⟩,
 ⟨some 49, none, .idxAA 2 1, [.t 48, .t 47]⟩,
 ⟨some 50, none, .load none, [.t 49]⟩,
 ⟨some 6, none, .mov, [.t 50]⟩])))))
/-- "(*crossroads/trie.Trie).down": 51 temporaries, 3 parameters, results some []. -/
def ac36 : AC :=
 .seq (.reg []
 [⟨some 4, none, .box, [.t 1]⟩])
 (.seq (.seq (.reg []
 [⟨some 8, none, .mov, [.t 0]⟩,
 ⟨some 9, none, .bin .eql .ptr, [.t 8, .c .nilp]⟩])
 (.cond (.t 9)
 .ret
 .skip))
 (.seq (.reg []
 [⟨some 10, none, .mov, [.t 0]⟩,
 ⟨some 11, none, .nilchk, [.t 10]⟩,
 ⟨some 12, none, .fldA 2, [.t 11]⟩,
 ⟨some 13, none, .load none, [.t 12]⟩,
 ⟨some 6, none, .mov, [.t 13]⟩])
 (.block 0 (.loop ac36_1))))
theorem i36 : fnInfo Try.prog 36 = some (51, [], ac36) := by kernel_rfl
/-- "(*crossroads/trie.Trie).Above$1": 13 temporaries, 1 parameters, results some []. -/
def ac37 : AC :=
 .seq (.reg []
 [⟨some 2, none, .box, [.t 0]⟩])
 (.seq (.reg []
 [⟨some 3, none, .fldA 3, [.t 2]⟩,
 ⟨some 4, none, .load none, [.t 3]⟩])
 (.cond (.t 4)
 (.reg []
 [⟨some 5, none, .load none, [.t 1]⟩,
 ⟨some 6, none, .fldA 0, [.t 2]⟩,
 ⟨some 7, none, .load (some 2), [.t 6]⟩,
 ⟨some 8, none, .fldA 2, [.t 2]⟩,
 ⟨some 9, none, .load none, [.t 8]⟩,
 ⟨some 10, none, .build [.int .u32 0, .int .i64 0, .int .i64 0] [(0, 2), (2, 1)], [.t 7, .t 9]⟩,
 ⟨some 11, none, .bslice 3 33, [.t 10]⟩,
 ⟨some 12, none, .append 3 33 24, [.t 5, .t 11]⟩,
 ⟨none, none, .store 1, [.t 1, .t 12]⟩])
 .skip))
theorem i37 : fnInfo Try.prog 37 = some (13, [], ac37) := by kernel_rfl
/-- "crossroads/addr.isLong": 9 temporaries, 1 parameters, results some [.t 2]. -/
def ac39 : AC :=
 .seq (.reg []
 [⟨some 2, none, .mov, [.c (.bool false)]⟩])
 (.seq (.reg []
 [⟨some 3, none, .mov, [.t 0]⟩,
 ⟨some 4, none, .bin .geq .scal, [.t 3, .c (.int .i64 0)]⟩,
 ⟨some 5, none, .mov, [.t 4]⟩,
 ⟨some 6, some (5, true), .mov, [.t 0]⟩,
 ⟨some 7, some (5, true), .bin .leq .scal, [.t 6, .c (.int .i64 32)]⟩,
 ⟨some 8, none, .pick, [.t 5, .t 7, .c (.bool false)]⟩,
 ⟨some 2, none, .mov, [.t 8]⟩])
 .ret)
theorem i39 : fnInfo Try.prog 39 = some (9, [.t 2], ac39) := by kernel_rfl
/-- "crossroads/addr.Mask": 10 temporaries, 1 parameters, results some [.t 2]. -/
def ac40 : AC :=
 .seq (.reg []
 [⟨some 2, none, .mov, [.c (.int .u32 0)]⟩])
 (.seq (.reg []
 [⟨some 3, none, .mov, [.t 0]⟩,
 ⟨some 4, none, .minmax true, [.t 3, .c (.int .i64 0)]⟩,
 ⟨some 5, none, .minmax false, [.t 4, .c (.int .i64 32)]⟩,
 ⟨some 0, none, .mov, [.t 5]⟩])
 (.seq (.reg []
 [⟨some 6, none, .mov, [.t 0]⟩,
 ⟨some 7, none, .bin .sub .scal, [.c (.int .i64 32), .t 6]⟩,
 ⟨some 8, none, .bin .shl .scal, [.c (.int .u64 4294967295), .t 7]⟩,
 ⟨some 9, none, .conv .u32, [.t 8]⟩,
 ⟨some 2, none, .mov, [.t 9]⟩])
 .ret))
theorem i40 : fnInfo Try.prog 40 = some (10, [.t 2], ac40) := by kernel_rfl
/-- "(*crossroads/trie.Trie).add": 56 temporaries, 2 parameters, results some [.t 4]. -/
def ac41 : AC :=
 .seq (.reg []
 [⟨some 3, none, .box, [.t 1]⟩,
 ⟨some 4, none, .mov, [.c (.int .i64 0)]⟩])
 (.seq (.seq (.reg []
 [⟨some 7, none, .mov, [.t 0]⟩,
 ⟨some 8, none, .nilchk, [.t 7]⟩,
 ⟨some 9, none, .fldA 1, [.t 8]⟩,
 ⟨some 10, none, .load none, [.t 9]⟩,
 ⟨some 11, none, .lenL, [.t 10]⟩,
 ⟨some 5, none, .mov, [.t 11]⟩])
 (.seq (.reg []
 [⟨some 12, none, .mov, [.t 5]⟩,
 ⟨some 13, none, .bin .gtr .scal, [.t 12, .c (.int .i64 0)]⟩])
 (.cond (.t 13)
 (.seq (.reg []
 [⟨some 14, none, .mov, [.t 0]⟩,
 ⟨some 15, none, .nilchk, [.t 14]⟩,
 ⟨some 16, none, .fldA 1, [.t 15]⟩,
 ⟨some 17, none, .load none, [.t 16]⟩,
 ⟨some 18, none, .mov, [.t 5]⟩,
 ⟨some 19, none, .bin .sub .scal, [.t 18, .c (.int .i64 1)]⟩,
 ⟨some 20, none, .idxA 1, [.t 17, .t 19]⟩,
 ⟨some 21, none, .load none, [.t 20]⟩,
 ⟨some 6, none, .mov, [.t 21]⟩])
 (.seq (.reg [[], [], [1], [2], [3], [], [], [6], [7], [8], [], [10], [9, 11], [], [0, 0, 4, 6, 7, 8, 9, 10, 11, 12], [14, 0, 4, 6, 7, 8, 9, 10, 11, 12], [15, 12, 0, 4, 6, 7, 8, 9, 10, 11, 12], [4, 5, 0, 1, 2, 3, 4, 5, 6, 7, 8, 9, 10, 11, 12, 13, 14, 15, 16], [17, 13, 16, 0, 1, 2, 3, 4, 5, 6, 7, 8, 9, 10, 11, 12, 13, 14, 15, 16]]
 [⟨some 22, none, .mov, [.t 0]⟩,
 ⟨some 23, none, .mov, [.t 0]⟩,
 ⟨some 24, none, .nilchk, [.t 23]⟩,
 ⟨some 25, none, .fldA 0, [.t 24]⟩,
 ⟨some 26, none, .load none, [.t 25]⟩,
 ⟨some 27, none, .mov, [.t 6]⟩,
 ⟨some 28, none, .mov, [.t 0]⟩,
 ⟨some 29, none, .nilchk, [.t 28]⟩,
 ⟨some 30, none, .fldA 1, [.t 29]⟩,
 ⟨some 31, none, .load none, [.t 30]⟩,
 ⟨some 32, none, .mov, [.t 5]⟩,
 ⟨some 33, none, .bin .sub .scal, [.t 32, .c (.int .i64 1)]⟩,
 ⟨some 34, none, .slice 1 false true, [.t 31, .t 33]⟩,
 ⟨some 35, none, .load (some 6), [.t 3]⟩,
 ⟨some 36, none, .nilchk, [.t 22]⟩,
 ⟨some 37, none, .fldA 1, [.t 36]⟩,
 ⟨none, none, .store 1, [.t 37, .t 34]⟩,
 ⟨some 38, none, .idxA 6, [.t 26, .t 27]⟩,
 ⟨none, none, .store 6, [.t 38, .t 35]⟩])
 (.seq (.reg []
 [⟨some 39, none, .mov, [.t 6]⟩,
 ⟨some 4, none, .mov, [.t 39]⟩])
 .ret)))
 .skip)))
 (.seq (.reg [[], [], [1], [2], [3], [], [5], [4, 6], [0, 0, 1, 2, 3, 4, 5, 6, 7], [8, 0, 1, 2, 3, 4, 5, 6, 7], [9, 7, 7, 0, 1, 2, 3, 4, 5, 6, 7]]
 [⟨some 40, none, .mov, [.t 0]⟩,
 ⟨some 41, none, .mov, [.t 0]⟩,
 ⟨some 42, none, .nilchk, [.t 41]⟩,
 ⟨some 43, none, .fldA 0, [.t 42]⟩,
 ⟨some 44, none, .load none, [.t 43]⟩,
 ⟨some 45, none, .load (some 6), [.t 3]⟩,
 ⟨some 46, none, .bslice 6 69, [.t 45]⟩,
 ⟨some 47, none, .append 6 69 48, [.t 44, .t 46]⟩,
 ⟨some 48, none, .nilchk, [.t 40]⟩,
 ⟨some 49, none, .fldA 0, [.t 48]⟩,
 ⟨none, none, .store 1, [.t 49, .t 47]⟩])
 (.seq (.reg []
 [⟨some 50, none, .mov, [.t 0]⟩,
 ⟨some 51, none, .nilchk, [.t 50]⟩,
 ⟨some 52, none, .fldA 0, [.t 51]⟩,
 ⟨some 53, none, .load none, [.t 52]⟩,
 ⟨some 54, none, .lenL, [.t 53]⟩,
 ⟨some 55, none, .bin .sub .scal, [.t 54, .c (.int .i64 1)]⟩,
 ⟨some 4, none, .mov, [.t 55]⟩])
 .ret)))
theorem i41 : fnInfo Try.prog 41 = some (56, [.t 4], ac41) := by kernel_rfl
/-- "crossroads/trie.leaf": 9 temporaries, 2 parameters, results some [.c 4 (some 6)]. -/
def ac42 : AC :=
 .seq (.reg []
 [⟨some 2, none, .box, [.t 0]⟩,
 ⟨some 4, none, .alloc [.int .u32 0, .int .i64 0, .int .i64 0, .bool false, .int .i64 0, .int .i64 0], []⟩])
 (.seq (.reg []
 [⟨some 5, none, .load (some 2), [.t 2]⟩,
 ⟨some 6, none, .mov, [.t 1]⟩,
 ⟨some 7, none, .build [.int .i64 0, .int .i64 0] [(0, 1), (1, 1)], [.c (.int .i64 (-1)), .c (.int .i64 (-1))]⟩,
 ⟨some 8, none, .build [.int .u32 0, .int .i64 0, .int .i64 0, .bool false, .int .i64 0, .int .i64 0] [(0, 2), (2, 1), (3, 1), (4, 2)], [.t 5, .t 6, .c (.bool true), .t 7]⟩,
 ⟨none, none, .store 6, [.t 4, .t 8]⟩])
 .ret)
theorem i42 : fnInfo Try.prog 42 = some (9, [.c 4 (some 6)], ac42) := by kernel_rfl
/-- "crossroads/trie.side": 10 temporaries, 2 parameters, results some [.t 4]. -/
def ac43 : AC :=
 .seq (.reg []
 [⟨some 2, none, .box, [.t 0]⟩,
 ⟨some 3, none, .box, [.t 1]⟩,
 ⟨some 4, none, .mov, [.c (.int .i64 0)]⟩])
 (.seq (.reg []
 [⟨some 5, none, .fldA 0, [.t 3]⟩,
 ⟨some 6, none, .load none, [.t 5]⟩,
 ⟨some 7, none, .fldA 1, [.t 2]⟩,
 ⟨some 8, none, .load none, [.t 7]⟩,
 ⟨some 9, none, .call 47, [.t 6, .t 8]⟩,
 ⟨some 4, none, .mov, [.t 9]⟩])
 .ret)
theorem i43 : fnInfo Try.prog 43 = some (10, [.t 4], ac43) := by kernel_rfl
/-- "crossroads/addr.Common": 33 temporaries, 2 parameters, results some [.c 4 (some 2)]. -/
def ac44 : AC :=
 .seq (.reg []
 [⟨some 2, none, .box, [.t 0]⟩,
 ⟨some 3, none, .box, [.t 1]⟩,
 ⟨some 4, none, .alloc [.int .u32 0, .int .i64 0], []⟩])
 (.seq (.seq (.reg []
 [⟨some 6, none, .load (some 2), [.t 2]⟩,
 ⟨some 7, none, .call 30, [.t 6]⟩,
 ⟨some 8, none, .unNot, [.t 7]⟩,
 ⟨some 9, none, .mov, [.t 8]⟩,
 ⟨some 10, some (9, false), .load (some 2), [.t 3]⟩,
 ⟨some 11, some (9, false), .call 30, [.t 10]⟩,
 ⟨some 12, some (9, false), .unNot, [.t 11]⟩,
 ⟨some 13, none, .pick, [.t 9, .c (.bool true), .t 12]⟩])
 (.cond (.t 13)
 (.seq (.reg []
 [⟨some 14, none, .build [.int .u32 0, .int .i64 0] [], []⟩,
 ⟨none, none, .store 2, [.t 4, .t 14]⟩])
 .ret)
 .skip))
 (.seq (.reg [[], [0], [], [2], [], [4], [], [6], [5, 7], [8], [1, 3, 9], [10, 9, 0, 1, 2, 3, 4, 5, 6, 7, 8, 9, 10]]
 [⟨some 15, none, .fldA 1, [.t 2]⟩,
 ⟨some 16, none, .load none, [.t 15]⟩,
 ⟨some 17, none, .fldA 1, [.t 3]⟩,
 ⟨some 18, none, .load none, [.t 17]⟩,
 ⟨some 19, none, .fldA 0, [.t 2]⟩,
 ⟨some 20, none, .load none, [.t 19]⟩,
 ⟨some 21, none, .fldA 0, [.t 3]⟩,
 ⟨some 22, none, .load none, [.t 21]⟩,
 ⟨some 23, none, .bin .xor .scal, [.t 20, .t 22]⟩,
 ⟨some 24, none, .call 48, [.t 23]⟩,
 ⟨some 25, none, .minmax false, [.t 16, .t 18, .t 24]⟩,
 ⟨some 5, none, .mov, [.t 25]⟩])
 (.seq (.reg [[], [0], [], [2], [1, 3], [], [4, 5], [6, 3, 0, 1, 2, 3, 4, 5, 6]]
 [⟨some 26, none, .fldA 0, [.t 2]⟩,
 ⟨some 27, none, .load none, [.t 26]⟩,
 ⟨some 28, none, .mov, [.t 5]⟩,
 ⟨some 29, none, .call 40, [.t 28]⟩,
 ⟨some 30, none, .bin .and .scal, [.t 27, .t 29]⟩,
 ⟨some 31, none, .mov, [.t 5]⟩,
 ⟨some 32, none, .build [.int .u32 0, .int .i64 0] [(0, 1), (1, 1)], [.t 30, .t 31]⟩,
 ⟨none, none, .store 2, [.t 4, .t 32]⟩])
 .ret)))
theorem i44 : fnInfo Try.prog 44 = some (33, [.c 4 (some 2)], ac44) := by kernel_rfl
/-- "crossroads/addr.Has": 17 temporaries, 2 parameters, results some [.t 4]. -/
def ac46 : AC :=
 .seq (.reg []
 [⟨some 2, none, .box, [.t 0]⟩,
 ⟨some 4, none, .mov, [.c (.bool false)]⟩])
 (.seq (.reg [[], [0], [1, 1], [2], [2], [4, 2], [5, 2, 2], [3, 6, 2], [2], [8, 2], [7, 9, 2], [2, 10], [11, 6, 0, 1, 2, 3, 4, 5, 6, 7, 8, 9, 10, 11]]
 [⟨some 5, none, .load (some 2), [.t 2]⟩,
 ⟨some 6, none, .call 30, [.t 5]⟩,
 ⟨some 7, none, .mov, [.t 6]⟩,
 ⟨some 8, some (7, true), .mov, [.t 1]⟩,
 ⟨some 9, some (7, true), .fldA 1, [.t 2]⟩,
 ⟨some 10, some (7, true), .load none, [.t 9]⟩,
 ⟨some 11, some (7, true), .call 40, [.t 10]⟩,
 ⟨some 12, some (7, true), .bin .and .scal, [.t 8, .t 11]⟩,
 ⟨some 13, some (7, true), .fldA 0, [.t 2]⟩,
 ⟨some 14, some (7, true), .load none, [.t 13]⟩,
 ⟨some 15, some (7, true), .bin .eql .scal, [.t 12, .t 14]⟩,
 ⟨some 16, none, .pick, [.t 7, .t 15, .c (.bool false)]⟩,
 ⟨some 4, none, .mov, [.t 16]⟩])
 .ret)
theorem i46 : fnInfo Try.prog 46 = some (17, [.t 4], ac46) := by kernel_rfl
/-- "crossroads/addr.Bit": 17 temporaries, 2 parameters, results some [.t 4]. -/
def ac47 : AC :=
 .seq (.reg []
 [⟨some 4, none, .mov, [.c (.int .i64 0)]⟩])
 (.seq (.seq (.reg []
 [⟨some 5, none, .mov, [.t 1]⟩,
 ⟨some 6, none, .bin .lss .scal, [.t 5, .c (.int .i64 0)]⟩,
 ⟨some 7, none, .mov, [.t 6]⟩,
 ⟨some 8, some (7, false), .mov, [.t 1]⟩,
 ⟨some 9, some (7, false), .bin .geq .scal, [.t 8, .c (.int .i64 32)]⟩,
 ⟨some 10, none, .pick, [.t 7, .c (.bool true), .t 9]⟩])
 (.cond (.t 10)
 (.seq (.reg []
 [⟨some 4, none, .mov, [.c (.int .i64 0)]⟩])
 .ret)
 .skip))
 (.seq (.reg []
 [⟨some 11, none, .mov, [.t 0]⟩,
 ⟨some 12, none, .mov, [.t 1]⟩,
 ⟨some 13, none, .bin .sub .scal, [.c (.int .i64 31), .t 12]⟩,
 ⟨some 14, none, .bin .shr .scal, [.t 11, .t 13]⟩,
 ⟨some 15, none, .bin .and .scal, [.t 14, .c (.int .u32 1)]⟩,
 ⟨some 16, none, .conv .i64, [.t 15]⟩,
 ⟨some 4, none, .mov, [.t 16]⟩])
 .ret))
theorem i47 : fnInfo Try.prog 47 = some (17, [.t 4], ac47) := by kernel_rfl
/-- "math/bits.LeadingZeros32": 6 temporaries, 1 parameters, results some [.t 2]. -/
def ac48 : AC :=
 .seq (.reg []
 [⟨some 2, none, .mov, [.c (.int .i64 0)]⟩])
 (.seq (.reg []
 [⟨some 3, none, .mov, [.t 0]⟩,
 ⟨some 4, none, .call 49, [.t 3]⟩,
 ⟨some 5, none, .bin .sub .scal, [.c (.int .i64 32), .t 4]⟩,
 ⟨some 2, none, .mov, [.t 5]⟩])
 .ret)
theorem i48 : fnInfo Try.prog 48 = some (6, [.t 2], ac48) := by kernel_rfl
/-- "math/bits.Len32": 19 temporaries, 1 parameters, results some [.t 2]. -/
def ac49 : AC :=
 .seq (.reg []
 [⟨some 2, none, .mov, [.c (.int .i64 0)]⟩])
 (.seq (.seq (.reg []
 [⟨some 3, none, .mov, [.t 0]⟩,
 ⟨some 4, none, .bin .geq .scal, [.t 3, .c (.int .u32 65536)]⟩])
 (.cond (.t 4)
 (.seq (.reg []
 [⟨some 5, none, .mov, [.t 0]⟩,
 ⟨some 6, none, .bin .shr .scal, [.t 5, .c (.int .u64 16)]⟩,
 ⟨some 0, none, .mov, [.t 6]⟩])
 (.reg []
 [⟨some 2, none, .mov, [.c (.int .i64 16)]⟩]))
 .skip))
 (.seq (.seq (.reg []
 [⟨some 7, none, .mov, [.t 0]⟩,
 ⟨some 8, none, .bin .geq .scal, [.t 7, .c (.int .u32 256)]⟩])
 (.cond (.t 8)
 (.seq (.reg []
 [⟨some 9, none, .mov, [.t 0]⟩,
 ⟨some 10, none, .bin .shr .scal, [.t 9, .c (.int .u64 8)]⟩,
 ⟨some 0, none, .mov, [.t 10]⟩])
 (.reg []
 [⟨some 11, none, .mov, [.t 2]⟩,
 ⟨some 12, none, .bin .add .scal, [.t 11, .c (.int .i64 8)]⟩,
 ⟨some 2, none, .mov, [.t 12]⟩]))
 .skip))
 (.seq (.reg []
 [⟨some 13, none, .mov, [.t 2]⟩,
 ⟨some 14, none, .mov, [.t 0]⟩,
 ⟨some 15, none, .conv .u8, [.t 14]⟩,
 ⟨some 16, none, .idxS, [.c (.str (bstr [0, 1, 2, 2, 3, 3, 3, 3, 4, 4, 4, 4, 4, 4, 4, 4, 5, 5, 5, 5, 5, 5, 5, 5, 5, 5, 5, 5, 5, 5, 5, 5, 6, 6, 6, 6, 6, 6, 6, 6, 6, 6, 6, 6, 6, 6, 6, 6, 6, 6, 6, 6, 6, 6, 6, 6, 6, 6, 6, 6, 6, 6, 6, 6, 7, 7, 7, 7, 7, 7, 7, 7, 7, 7, 7, 7, 7, 7, 7, 7, 7, 7, 7, 7, 7, 7, 7, 7, 7, 7, 7, 7, 7, 7, 7, 7, 7, 7, 7, 7, 7, 7, 7, 7, 7, 7, 7, 7, 7, 7, 7, 7, 7, 7, 7, 7, 7, 7, 7, 7, 7, 7, 7, 7, 7, 7, 7, 7, 8, 8, 8, 8, 8, 8, 8, 8, 8, 8, 8, 8, 8, 8, 8, 8, 8, 8, 8, 8, 8, 8, 8, 8, 8, 8, 8, 8, 8, 8, 8, 8, 8, 8, 8, 8, 8, 8, 8, 8, 8, 8, 8, 8, 8, 8, 8, 8, 8, 8, 8, 8, 8, 8, 8, 8, 8, 8, 8, 8, 8, 8, 8, 8, 8, 8, 8, 8, 8, 8, 8, 8, 8, 8, 8, 8, 8, 8, 8, 8, 8, 8, 8, 8, 8, 8, 8, 8, 8, 8, 8, 8, 8, 8, 8, 8, 8, 8, 8, 8, 8, 8, 8, 8, 8, 8, 8, 8, 8, 8, 8, 8, 8, 8, 8, 8, 8, 8, 8, 8, 8, 8, 8, 8, 8, 8, 8, 8])), .t 15]⟩,
 ⟨some 17, none, .conv .i64, [.t 16]⟩,
 ⟨some 18, none, .bin .add .scal, [.t 13, .t 17]⟩,
 ⟨some 2, none, .mov, [.t 18]⟩])
 .ret)))
theorem i49 : fnInfo Try.prog 49 = some (19, [.t 2], ac49) := by kernel_rfl
end Go.Proofs.Ytakallenldpkiaa.Abs

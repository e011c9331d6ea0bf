/- The functions of the program as the abstract machine's code: each is what the model's code is turned into. -/
import Derived.Test.YtlemcljcmfphcaaA20
import Derived.Test.YtlemcljcmfphcaaProg
import Derived.KernelRfl
namespace Go.Proofs.Ytlemcljcmfphcaa.Abs
open Go

theorem mixed : Try.prog.follows .mixedOrders = true := by kernel_rfl

def ac5_1 : AC :=
 .seq (.seq (.reg []
 [⟨some 30, none, .mov, [.t 10]⟩,
 ⟨some 31, none, .mov, [.t 2]⟩,
 ⟨some 32, none, .lenL, [.t 31]⟩,
 ⟨some 33, none, .bin .lss .scal, [.t 30, .t 32]⟩])
 (.cond (.t 33)
 .skip
 (.exit 0)))
 (.seq (.block 1 (.reg []
 [⟨some 36, none, .mov, [.t 9]⟩,
 ⟨some 37, none, .mov, [.t 2]⟩,
 ⟨some 38, none, .mov, [.t 10]⟩,
 ⟨some 39, none, .idxA 3, [.t 37, .t 38]⟩,
 ⟨some 40, none, .load (some 3), [.t 39]⟩,
 ⟨some 41, none, .call 14, [.t 40]⟩,
 ⟨some 42, none, .bslice 3 55, [.t 41]⟩,
 ⟨some 43, none, .append 3 55 24, [.t 36, .t 42]⟩,
 ⟨some 9, none, .mov, [.t 43]⟩]))
 (.reg []
 [⟨some 34, none, .mov, [.t 10]⟩,
 ⟨some 35, none, .bin .add .scal, [.t 34, .c (.int .i64 1)]⟩,
 ⟨some 10, none, .mov, [.t 35]⟩]))
/-- "crossroads/crossroadslaw28.RedistSweep": 69 temporaries, 3 parameters, results some [.t 6]. -/
def ac5 : AC :=
 .seq (.reg []
 [⟨some 6, none, .mov, [.c (.bool false)]⟩])
 (.seq (.reg []
 [⟨some 16, none, .mov, [.t 0]⟩,
 ⟨some 17, none, .mov, [.t 1]⟩,
 ⟨some 18, none, .call 9, [.t 16, .t 17]⟩,
 ⟨some 15, none, .mov, [.t 18]⟩,
 ⟨some 19, none, .ext 0, [.t 15]⟩,
 ⟨some 20, none, .ext 1, [.t 15]⟩,
 ⟨some 7, none, .alloc [.nils], []⟩,
 ⟨none, none, .store 1, [.t 7, .t 19]⟩,
 ⟨some 8, none, .mov, [.t 20]⟩])
 (.seq (.seq (.reg []
 [⟨some 21, none, .mov, [.t 8]⟩,
 ⟨some 22, none, .unNot, [.t 21]⟩,
 ⟨some 23, none, .mov, [.t 22]⟩,
 ⟨some 24, some (23, false), .mov, [.t 2]⟩,
 ⟨some 25, some (23, false), .lenL, [.t 24]⟩,
 ⟨some 26, some (23, false), .bin .gtr .scal, [.t 25, .c (.int .i64 20)]⟩,
 ⟨some 27, none, .pick, [.t 23, .c (.bool true), .t 26]⟩])
 (.cond (.t 27)
 (.seq (.reg []
 [⟨some 28, none, .call 8, []⟩,
 ⟨some 6, none, .mov, [.t 28]⟩])
 .ret)
 .skip))
 (.seq (.reg []
 [⟨some 29, none, .bslice 3 55, []⟩,
 ⟨some 9, none, .mov, [.t 29]⟩])
 (.seq (.seq (.reg []
 [⟨some 10, none, .mov, [.c (.int .i64 0)]⟩])
 (.block 0 (.loop ac5_1)))
 (.seq (.reg []
 [⟨some 45, none, .load (some 1), [.t 7]⟩,
 ⟨some 46, none, .mov, [.t 2]⟩,
 ⟨some 47, none, .call 27, [.t 45, .t 46]⟩,
 ⟨some 44, none, .mov, [.t 47]⟩,
 ⟨some 48, none, .ext 0, [.t 44]⟩,
 ⟨some 49, none, .ext 1, [.t 44]⟩,
 ⟨some 11, none, .alloc [.nils], []⟩,
 ⟨none, none, .store 1, [.t 11, .t 48]⟩,
 ⟨some 12, none, .mov, [.t 49]⟩])
 (.seq (.reg []
 [⟨some 51, none, .load (some 1), [.t 7]⟩,
 ⟨some 52, none, .call 13, [.t 51]⟩,
 ⟨some 53, none, .mov, [.t 9]⟩,
 ⟨some 54, none, .call 28, [.t 52, .t 53]⟩,
 ⟨some 50, none, .mov, [.t 54]⟩,
 ⟨some 55, none, .ext 0, [.t 50]⟩,
 ⟨some 56, none, .ext 1, [.t 50]⟩,
 ⟨some 13, none, .alloc [.nils], []⟩,
 ⟨none, none, .store 1, [.t 13, .t 55]⟩,
 ⟨some 14, none, .mov, [.t 56]⟩])
 (.seq (.reg [[], [0, 0], [1], [2, 1, 1], [1], [3, 4, 3, 1], [1, 5], [6, 5], [7], [7], [8, 9, 7], [7, 10], [11, 7, 0, 1, 2, 3, 4, 5, 6, 7, 8, 9, 10, 11]]
 [⟨some 57, none, .call 8, []⟩,
 ⟨some 58, none, .mov, [.t 57]⟩,
 ⟨some 59, some (58, true), .load (some 1), [.t 11]⟩,
 ⟨some 60, some (58, true), .call 13, [.t 59]⟩,
 ⟨some 61, some (58, true), .load (some 1), [.t 13]⟩,
 ⟨some 62, some (58, true), .call 12, [.t 60, .t 61]⟩,
 ⟨some 63, none, .pick, [.t 58, .t 62, .c (.bool false)]⟩,
 ⟨some 64, none, .mov, [.t 63]⟩,
 ⟨some 65, some (64, true), .mov, [.t 12]⟩,
 ⟨some 66, some (64, true), .mov, [.t 14]⟩,
 ⟨some 67, some (64, true), .bin .eql .scal, [.t 65, .t 66]⟩,
 ⟨some 68, none, .pick, [.t 64, .t 67, .c (.bool false)]⟩,
 ⟨some 6, none, .mov, [.t 68]⟩])
 .ret)))))))
theorem i5 : fnInfo Try.prog 5 = some (69, [.t 6], ac5) := by kernel_rfl
/-- "crossroads/crossroadslaw28.alive": 64 temporaries, 0 parameters, results some [.t 0]. -/
def ac8 : AC :=
 .seq (.reg []
 [⟨some 0, none, .mov, [.c (.bool false)]⟩])
 (.seq (.reg []
 [⟨some 11, none, .bslice 1 27, [.c (.int .u32 1), .c (.int .u32 2)]⟩,
 ⟨some 12, none, .call 10, [.t 11]⟩,
 ⟨some 10, none, .mov, [.t 12]⟩,
 ⟨some 13, none, .ext 0, [.t 10]⟩,
 ⟨some 14, none, .ext 1, [.t 10]⟩,
 ⟨some 1, none, .alloc [.nils], []⟩,
 ⟨none, none, .store 1, [.t 1, .t 13]⟩,
 ⟨some 2, none, .mov, [.t 14]⟩])
 (.seq (.reg []
 [⟨some 16, none, .load (some 1), [.t 1]⟩,
 ⟨some 17, none, .build [.int .u32 0, .int .i64 0] [], []⟩,
 ⟨some 18, none, .call 15, [.t 16, .c (.int .i64 0), .t 17]⟩,
 ⟨some 15, none, .mov, [.t 18]⟩,
 ⟨some 19, none, .ext 0, [.t 15]⟩,
 ⟨some 20, none, .ext 1, [.t 15]⟩,
 ⟨none, none, .store 1, [.t 1, .t 19]⟩,
 ⟨some 3, none, .mov, [.t 20]⟩])
 (.seq (.reg []
 [⟨some 22, none, .load (some 1), [.t 1]⟩,
 ⟨some 23, none, .build [.int .i64 0, .int .i64 0, .bool false] [(1, 1)], [.c (.int .i64 1)]⟩,
 ⟨some 24, none, .build [.int .u32 0, .int .i64 0] [], []⟩,
 ⟨some 25, none, .call 17, [.t 22, .t 23, .t 24]⟩,
 ⟨some 21, none, .mov, [.t 25]⟩,
 ⟨some 26, none, .ext 0, [.t 21]⟩,
 ⟨some 27, none, .ext 1, [.t 21]⟩,
 ⟨some 28, none, .ext 2, [.t 21]⟩,
 ⟨none, none, .store 1, [.t 1, .t 26]⟩,
 ⟨some 4, none, .mov, [.t 27]⟩,
 ⟨some 5, none, .mov, [.t 28]⟩])
 (.seq (.reg []
 [⟨some 30, none, .load (some 1), [.t 1]⟩,
 ⟨some 31, none, .build [.int .i64 0, .int .i64 0, .bool false] [(0, 1)], [.c (.int .i64 1)]⟩,
 ⟨some 32, none, .build [.int .u32 0, .int .i64 0] [], []⟩,
 ⟨some 33, none, .call 17, [.t 30, .t 31, .t 32]⟩,
 ⟨some 29, none, .mov, [.t 33]⟩,
 ⟨some 34, none, .ext 0, [.t 29]⟩,
 ⟨some 35, none, .ext 1, [.t 29]⟩,
 ⟨some 36, none, .ext 2, [.t 29]⟩,
 ⟨none, none, .store 1, [.t 1, .t 34]⟩,
 ⟨some 6, none, .mov, [.t 35]⟩,
 ⟨some 7, none, .mov, [.t 36]⟩])
 (.seq (.reg []
 [⟨some 38, none, .load (some 1), [.t 1]⟩,
 ⟨some 39, none, .build [.int .u32 0, .int .i64 0] [], []⟩,
 ⟨some 40, none, .call 21, [.t 38, .c (.int .i64 1), .t 39]⟩,
 ⟨some 37, none, .mov, [.t 40]⟩,
 ⟨some 41, none, .ext 0, [.t 37]⟩,
 ⟨some 42, none, .ext 1, [.t 37]⟩,
 ⟨some 8, none, .alloc [.int .u32 0, .int .i64 0, .int .u32 0, .bool false], []⟩,
 ⟨none, none, .store 4, [.t 8, .t 41]⟩,
 ⟨some 9, none, .mov, [.t 42]⟩])
 (.seq (.reg []
 [⟨some 43, none, .mov, [.t 2]⟩,
 ⟨some 44, none, .bin .eql .scal, [.t 43, .c (.int .i64 0)]⟩,
 ⟨some 45, none, .mov, [.t 44]⟩,
 ⟨some 46, some (45, true), .mov, [.t 3]⟩,
 ⟨some 47, some (45, true), .bin .eql .scal, [.t 46, .c (.int .i64 0)]⟩,
 ⟨some 48, none, .pick, [.t 45, .t 47, .c (.bool false)]⟩,
 ⟨some 49, none, .mov, [.t 48]⟩,
 ⟨some 50, some (49, true), .mov, [.t 4]⟩,
 ⟨some 51, none, .pick, [.t 49, .t 50, .c (.bool false)]⟩,
 ⟨some 52, none, .mov, [.t 51]⟩,
 ⟨some 53, some (52, true), .mov, [.t 6]⟩,
 ⟨some 54, some (52, true), .unNot, [.t 53]⟩,
 ⟨some 55, none, .pick, [.t 52, .t 54, .c (.bool false)]⟩,
 ⟨some 56, none, .mov, [.t 55]⟩,
 ⟨some 57, some (56, true), .mov, [.t 9]⟩,
 ⟨some 58, none, .pick, [.t 56, .t 57, .c (.bool false)]⟩,
 ⟨some 59, none, .mov, [.t 58]⟩,
 ⟨some 60, some (59, true), .fldA 2, [.t 8]⟩,
 ⟨some 61, some (59, true), .load none, [.t 60]⟩,
 ⟨some 62, some (59, true), .bin .eql .scal, [.t 61, .c (.int .u32 1)]⟩,
 ⟨some 63, none, .pick, [.t 59, .t 62, .c (.bool false)]⟩,
 ⟨some 0, none, .mov, [.t 63]⟩])
 .ret))))))
theorem i8 : fnInfo Try.prog 8 = some (64, [.t 0], ac8) := by kernel_rfl
/-- "crossroads/crossroadslaw28.built": 27 temporaries, 2 parameters, results some [.c 4 (some 1), .t 5]. -/
def ac9 : AC :=
 .seq (.reg []
 [⟨some 4, none, .alloc [.nils], []⟩,
 ⟨some 5, none, .mov, [.c (.bool false)]⟩])
 (.seq (.seq (.reg []
 [⟨some 8, none, .mov, [.t 0]⟩,
 ⟨some 9, none, .lenL, [.t 8]⟩,
 ⟨some 10, none, .bin .gtr .scal, [.t 9, .c (.int .i64 20)]⟩,
 ⟨some 11, none, .mov, [.t 10]⟩,
 ⟨some 12, some (11, false), .mov, [.t 1]⟩,
 ⟨some 13, some (11, false), .lenL, [.t 12]⟩,
 ⟨some 14, some (11, false), .bin .gtr .scal, [.t 13, .c (.int .i64 100)]⟩,
 ⟨some 15, none, .pick, [.t 11, .c (.bool true), .t 14]⟩])
 (.cond (.t 15)
 (.seq (.reg []
 [⟨some 16, none, .build [.nils] [], []⟩,
 ⟨none, none, .store 1, [.t 4, .t 16]⟩,
 ⟨some 5, none, .mov, [.c (.bool false)]⟩])
 .ret)
 .skip))
 (.seq (.reg []
 [⟨some 18, none, .mov, [.t 0]⟩,
 ⟨some 19, none, .call 10, [.t 18]⟩,
 ⟨some 17, none, .mov, [.t 19]⟩,
 ⟨some 20, none, .ext 0, [.t 17]⟩,
 ⟨some 21, none, .ext 1, [.t 17]⟩,
 ⟨some 6, none, .alloc [.nils], []⟩,
 ⟨none, none, .store 1, [.t 6, .t 20]⟩,
 ⟨some 7, none, .mov, [.t 21]⟩])
 (.seq (.reg []
 [⟨some 22, none, .load (some 1), [.t 6]⟩,
 ⟨some 23, none, .mov, [.t 1]⟩,
 ⟨some 24, none, .call 24, [.t 22, .t 23]⟩,
 ⟨some 25, none, .mov, [.t 7]⟩,
 ⟨some 26, none, .bin .eql .scal, [.t 25, .c (.int .i64 0)]⟩,
 ⟨none, none, .store 1, [.t 4, .t 24]⟩,
 ⟨some 5, none, .mov, [.t 26]⟩])
 .ret)))
theorem i9 : fnInfo Try.prog 9 = some (27, [.c 4 (some 1), .t 5], ac9) := by kernel_rfl
def ac10_1 : AC :=
 .seq (.reg []
 [⟨some 13, none, .bin .lss .scal, [.t 12, .t 11]⟩])
 (.seq (.cond (.t 13)
 .skip
 (.exit 0))
 (.seq (.block 1 (.seq (.reg []
 [⟨some 14, none, .idxA 1, [.t 10, .t 12]⟩,
 ⟨some 15, none, .load none, [.t 14]⟩,
 ⟨some 7, none, .mov, [.t 15]⟩])
 (.seq (.seq (.reg []
 [⟨some 16, none, .mov, [.t 4]⟩,
 ⟨some 17, none, .mov, [.t 7]⟩,
 ⟨some 18, none, .lookup (.bool false) false (.int .u32), [.t 16, .t 17]⟩])
 (.cond (.t 18)
 (.seq (.reg []
 [⟨some 19, none, .build [.nils] [], []⟩,
 ⟨none, none, .store 1, [.t 2, .t 19]⟩,
 ⟨some 3, none, .mov, [.c (.int .i64 1)]⟩])
 .ret)
 .skip))
 (.seq (.reg []
 [⟨some 20, none, .mov, [.t 4]⟩,
 ⟨some 21, none, .mov, [.t 7]⟩,
 ⟨none, none, .mapset (.int .u32), [.t 20, .t 21, .c (.bool true)]⟩])
 (.reg []
 [⟨some 22, none, .fldA 0, [.t 5]⟩,
 ⟨some 23, none, .load none, [.t 22]⟩,
 ⟨some 24, none, .mov, [.t 7]⟩,
 ⟨some 25, none, .build [.int .u32 0, .nils, .nils] [(0, 1)], [.t 24]⟩,
 ⟨some 26, none, .bslice 3 40, [.t 25]⟩,
 ⟨some 27, none, .append 3 40 56, [.t 23, .t 26]⟩,
 ⟨some 28, none, .fldA 0, [.t 5]⟩,
 ⟨none, none, .store 1, [.t 28, .t 27]⟩])))))
 (.reg []
 [⟨some 29, none, .bin .add .scal, [.t 12, .c (.int .i64 1)]⟩,
 ⟨some 12, none, .mov, [.t 29]⟩])))
/-- "crossroads/redist.New": 40 temporaries, 1 parameters, results some [.c 2 (some 1), .t 3]. -/
def ac10 : AC :=
 .seq (.reg []
 [⟨some 2, none, .alloc [.nils], []⟩,
 ⟨some 3, none, .mov, [.c (.int .i64 0)]⟩])
 (.seq (.reg []
 [⟨some 8, none, .mkmap, []⟩,
 ⟨none, none, .mapset (.int .u32), [.t 8, .c (.int .u32 0), .c (.bool true)]⟩,
 ⟨some 9, none, .mov, [.t 8]⟩,
 ⟨some 4, none, .mov, [.t 9]⟩])
 (.seq (.reg []
 [⟨some 5, none, .alloc [.nils], []⟩])
 (.seq (.seq (.reg []
 [⟨some 10, none, .mov, [.t 0]⟩,
 ⟨some 11, none, .lenL, [.t 10]⟩,
 ⟨some 12, none, .mov, [.c (.int .i64 0)]⟩])
 (.block 0 (.loop ac10_1)))
 (.seq (.seq (.reg []
 [⟨some 30, none, .mov, [.t 0]⟩,
 ⟨some 31, none, .lenL, [.t 30]⟩,
 ⟨some 32, none, .bin .eql .scal, [.t 31, .c (.int .i64 0)]⟩,
 ⟨some 33, none, .mov, [.t 32]⟩,
 ⟨some 34, some (33, false), .mov, [.t 0]⟩,
 ⟨some 35, some (33, false), .lenL, [.t 34]⟩,
 ⟨some 36, some (33, false), .bin .gtr .scal, [.t 35, .c (.int .i64 8)]⟩,
 ⟨some 37, none, .pick, [.t 33, .c (.bool true), .t 36]⟩])
 (.cond (.t 37)
 (.seq (.reg []
 [⟨some 38, none, .build [.nils] [], []⟩,
 ⟨none, none, .store 1, [.t 2, .t 38]⟩,
 ⟨some 3, none, .mov, [.c (.int .i64 1)]⟩])
 .ret)
 .skip))
 (.seq (.reg []
 [⟨some 39, none, .load (some 1), [.t 5]⟩,
 ⟨none, none, .store 1, [.t 2, .t 39]⟩,
 ⟨some 3, none, .mov, [.c (.int .i64 0)]⟩])
 .ret)))))
theorem i10 : fnInfo Try.prog 10 = some (40, [.c 2 (some 1), .t 3], ac10) := by kernel_rfl
def ac12_1 : AC :=
 .seq (.seq (.reg []
 [⟨some 57, none, .mov, [.t 8]⟩,
 ⟨some 58, none, .fldA 1, [.t 6]⟩,
 ⟨some 59, none, .load none, [.t 58]⟩,
 ⟨some 60, none, .lenL, [.t 59]⟩,
 ⟨some 61, none, .bin .lss .scal, [.t 57, .t 60]⟩])
 (.cond (.t 61)
 .skip
 (.exit 2)))
 (.seq (.block 3 (.seq (.reg [[], [0], [], [1, 2], [3], [], [5], [], [6, 7], [8], [4, 9]]
 [⟨some 64, none, .fldA 1, [.t 6]⟩,
 ⟨some 65, none, .load none, [.t 64]⟩,
 ⟨some 66, none, .mov, [.t 8]⟩,
 ⟨some 67, none, .idxA 2, [.t 65, .t 66]⟩,
 ⟨some 68, none, .load (some 2), [.t 67]⟩,
 ⟨some 69, none, .fldA 1, [.t 7]⟩,
 ⟨some 70, none, .load none, [.t 69]⟩,
 ⟨some 71, none, .mov, [.t 8]⟩,
 ⟨some 72, none, .idxA 2, [.t 70, .t 71]⟩,
 ⟨some 73, none, .load (some 2), [.t 72]⟩,
 ⟨some 74, none, .bin .neq (.flat [.int .u32, .int .i64]), [.t 68, .t 73]⟩])
 (.cond (.t 74)
 (.seq (.reg []
 [⟨some 4, none, .mov, [.c (.bool false)]⟩])
 .ret)
 .skip)))
 (.reg []
 [⟨some 62, none, .mov, [.t 8]⟩,
 ⟨some 63, none, .bin .add .scal, [.t 62, .c (.int .i64 1)]⟩,
 ⟨some 8, none, .mov, [.t 63]⟩]))
def ac12_2 : AC :=
 .seq (.seq (.reg []
 [⟨some 75, none, .mov, [.t 9]⟩,
 ⟨some 76, none, .fldA 2, [.t 6]⟩,
 ⟨some 77, none, .load none, [.t 76]⟩,
 ⟨some 78, none, .lenL, [.t 77]⟩,
 ⟨some 79, none, .bin .lss .scal, [.t 75, .t 78]⟩])
 (.cond (.t 79)
 .skip
 (.exit 4)))
 (.seq (.block 5 (.seq (.reg [[], [0], [], [1, 2], [3], [], [5], [], [6, 7], [8], [4, 9]]
 [⟨some 82, none, .fldA 2, [.t 6]⟩,
 ⟨some 83, none, .load none, [.t 82]⟩,
 ⟨some 84, none, .mov, [.t 9]⟩,
 ⟨some 85, none, .idxA 4, [.t 83, .t 84]⟩,
 ⟨some 86, none, .load (some 4), [.t 85]⟩,
 ⟨some 87, none, .fldA 2, [.t 7]⟩,
 ⟨some 88, none, .load none, [.t 87]⟩,
 ⟨some 89, none, .mov, [.t 9]⟩,
 ⟨some 90, none, .idxA 4, [.t 88, .t 89]⟩,
 ⟨some 91, none, .load (some 4), [.t 90]⟩,
 ⟨some 92, none, .bin .neq (.flat [.int .u32, .int .i64, .int .u32, .bool]), [.t 86, .t 91]⟩])
 (.cond (.t 92)
 (.seq (.reg []
 [⟨some 4, none, .mov, [.c (.bool false)]⟩])
 .ret)
 .skip)))
 (.reg []
 [⟨some 80, none, .mov, [.t 9]⟩,
 ⟨some 81, none, .bin .add .scal, [.t 80, .c (.int .i64 1)]⟩,
 ⟨some 9, none, .mov, [.t 81]⟩]))
def ac12_3 : AC :=
 .seq (.seq (.reg []
 [⟨some 17, none, .mov, [.t 5]⟩,
 ⟨some 18, none, .fldA 0, [.t 2]⟩,
 ⟨some 19, none, .load none, [.t 18]⟩,
 ⟨some 20, none, .lenL, [.t 19]⟩,
 ⟨some 21, none, .bin .lss .scal, [.t 17, .t 20]⟩])
 (.cond (.t 21)
 .skip
 (.exit 0)))
 (.seq (.block 1 (.seq (.reg [[], [0], [], [1, 2], [3], [], [5], [], [6, 7], [8], [], [], [10, 4, 0, 1, 2, 3, 4, 10, 11], [11, 9, 12, 0, 1, 2, 3, 4, 5, 6, 7, 8, 9, 10, 11, 12]]
 [⟨some 24, none, .fldA 0, [.t 2]⟩,
 ⟨some 25, none, .load none, [.t 24]⟩,
 ⟨some 26, none, .mov, [.t 5]⟩,
 ⟨some 27, none, .idxA 3, [.t 25, .t 26]⟩,
 ⟨some 28, none, .load (some 3), [.t 27]⟩,
 ⟨some 29, none, .fldA 0, [.t 3]⟩,
 ⟨some 30, none, .load none, [.t 29]⟩,
 ⟨some 31, none, .mov, [.t 5]⟩,
 ⟨some 32, none, .idxA 3, [.t 30, .t 31]⟩,
 ⟨some 33, none, .load (some 3), [.t 32]⟩,
 ⟨some 6, none, .alloc [.int .u32 0, .nils, .nils], []⟩,
 ⟨some 7, none, .alloc [.int .u32 0, .nils, .nils], []⟩,
 ⟨none, none, .store 3, [.t 6, .t 28]⟩,
 ⟨none, none, .store 3, [.t 7, .t 33]⟩])
 (.seq (.seq (.reg []
 [⟨some 34, none, .fldA 0, [.t 6]⟩,
 ⟨some 35, none, .load none, [.t 34]⟩,
 ⟨some 36, none, .fldA 0, [.t 7]⟩,
 ⟨some 37, none, .load none, [.t 36]⟩,
 ⟨some 38, none, .bin .neq .scal, [.t 35, .t 37]⟩,
 ⟨some 39, none, .mov, [.t 38]⟩,
 ⟨some 40, some (39, false), .fldA 1, [.t 6]⟩,
 ⟨some 41, some (39, false), .load none, [.t 40]⟩,
 ⟨some 42, some (39, false), .lenL, [.t 41]⟩,
 ⟨some 43, some (39, false), .fldA 1, [.t 7]⟩,
 ⟨some 44, some (39, false), .load none, [.t 43]⟩,
 ⟨some 45, some (39, false), .lenL, [.t 44]⟩,
 ⟨some 46, some (39, false), .bin .neq .scal, [.t 42, .t 45]⟩,
 ⟨some 47, none, .pick, [.t 39, .c (.bool true), .t 46]⟩,
 ⟨some 48, none, .mov, [.t 47]⟩,
 ⟨some 49, some (48, false), .fldA 2, [.t 6]⟩,
 ⟨some 50, some (48, false), .load none, [.t 49]⟩,
 ⟨some 51, some (48, false), .lenL, [.t 50]⟩,
 ⟨some 52, some (48, false), .fldA 2, [.t 7]⟩,
 ⟨some 53, some (48, false), .load none, [.t 52]⟩,
 ⟨some 54, some (48, false), .lenL, [.t 53]⟩,
 ⟨some 55, some (48, false), .bin .neq .scal, [.t 51, .t 54]⟩,
 ⟨some 56, none, .pick, [.t 48, .c (.bool true), .t 55]⟩])
 (.cond (.t 56)
 (.seq (.reg []
 [⟨some 4, none, .mov, [.c (.bool false)]⟩])
 .ret)
 .skip))
 (.seq (.seq (.reg []
 [⟨some 8, none, .mov, [.c (.int .i64 0)]⟩])
 (.block 2 (.loop ac12_1)))
 (.seq (.reg []
 [⟨some 9, none, .mov, [.c (.int .i64 0)]⟩])
 (.block 4 (.loop ac12_2)))))))
 (.reg []
 [⟨some 22, none, .mov, [.t 5]⟩,
 ⟨some 23, none, .bin .add .scal, [.t 22, .c (.int .i64 1)]⟩,
 ⟨some 5, none, .mov, [.t 23]⟩]))
/-- "crossroads/crossroadsref28.Same": 93 temporaries, 2 parameters, results some [.t 4]. -/
def ac12 : AC :=
 .seq (.reg []
 [⟨some 2, none, .box, [.t 0]⟩,
 ⟨some 3, none, .box, [.t 1]⟩,
 ⟨some 4, none, .mov, [.c (.bool false)]⟩])
 (.seq (.seq (.reg []
 [⟨some 10, none, .fldA 0, [.t 2]⟩,
 ⟨some 11, none, .load none, [.t 10]⟩,
 ⟨some 12, none, .lenL, [.t 11]⟩,
 ⟨some 13, none, .fldA 0, [.t 3]⟩,
 ⟨some 14, none, .load none, [.t 13]⟩,
 ⟨some 15, none, .lenL, [.t 14]⟩,
 ⟨some 16, none, .bin .neq .scal, [.t 12, .t 15]⟩])
 (.cond (.t 16)
 (.seq (.reg []
 [⟨some 4, none, .mov, [.c (.bool false)]⟩])
 .ret)
 .skip))
 (.seq (.seq (.reg []
 [⟨some 5, none, .mov, [.c (.int .i64 0)]⟩])
 (.block 0 (.loop ac12_3)))
 (.seq (.reg []
 [⟨some 4, none, .mov, [.c (.bool true)]⟩])
 .ret)))
theorem i12 : fnInfo Try.prog 12 = some (93, [.t 4], ac12) := by kernel_rfl
def ac13_1 : AC :=
 .seq (.seq (.reg []
 [⟨some 28, none, .mov, [.t 6]⟩,
 ⟨some 29, none, .fldA 0, [.t 1]⟩,
 ⟨some 30, none, .load none, [.t 29]⟩,
 ⟨some 31, none, .mov, [.t 4]⟩,
 ⟨some 32, none, .idxA 3, [.t 30, .t 31]⟩,
 ⟨some 33, none, .fldA 2, [.t 32]⟩,
 ⟨some 34, none, .load none, [.t 33]⟩,
 ⟨some 35, none, .lenL, [.t 34]⟩,
 ⟨some 36, none, .bin .lss .scal, [.t 28, .t 35]⟩])
 (.cond (.t 36)
 .skip
 (.exit 2)))
 (.seq (.block 3 (.reg [[], [0], [], [2], [], [3, 4], [5], [6], [], [7, 8], [9], [10], [11], [1, 12, 11], [0, 1, 2, 3, 4, 5, 6, 7, 8, 9, 10, 11, 12, 13], [14, 13, 13, 0, 1, 2, 3, 4, 5, 6, 7, 8, 9, 10, 11, 12, 13]]
 [⟨some 39, none, .fldA 2, [.t 5]⟩,
 ⟨some 40, none, .load none, [.t 39]⟩,
 ⟨some 41, none, .fldA 0, [.t 1]⟩,
 ⟨some 42, none, .load none, [.t 41]⟩,
 ⟨some 43, none, .mov, [.t 4]⟩,
 ⟨some 44, none, .idxA 3, [.t 42, .t 43]⟩,
 ⟨some 45, none, .fldA 2, [.t 44]⟩,
 ⟨some 46, none, .load none, [.t 45]⟩,
 ⟨some 47, none, .mov, [.t 6]⟩,
 ⟨some 48, none, .idxA 4, [.t 46, .t 47]⟩,
 ⟨some 49, none, .load (some 4), [.t 48]⟩,
 ⟨some 50, none, .call 23, [.t 49]⟩,
 ⟨some 51, none, .bslice 4 70, [.t 50]⟩,
 ⟨some 52, none, .append 4 70 24, [.t 40, .t 51]⟩,
 ⟨some 53, none, .fldA 2, [.t 5]⟩,
 ⟨none, none, .store 1, [.t 53, .t 52]⟩]))
 (.reg []
 [⟨some 37, none, .mov, [.t 6]⟩,
 ⟨some 38, none, .bin .add .scal, [.t 37, .c (.int .i64 1)]⟩,
 ⟨some 6, none, .mov, [.t 38]⟩]))
def ac13_2 : AC :=
 .seq (.seq (.reg []
 [⟨some 8, none, .mov, [.t 4]⟩,
 ⟨some 9, none, .fldA 0, [.t 1]⟩,
 ⟨some 10, none, .load none, [.t 9]⟩,
 ⟨some 11, none, .lenL, [.t 10]⟩,
 ⟨some 12, none, .bin .lss .scal, [.t 8, .t 11]⟩])
 (.cond (.t 12)
 .skip
 (.exit 0)))
 (.seq (.block 1 (.seq (.reg [[], [0], [], [1, 2], [3], [4], [], [6], [], [7, 8], [9], [10], [5, 11], [], [13, 12, 0, 1, 2, 3, 4, 5, 6, 7, 8, 9, 10, 11, 12, 13]]
 [⟨some 15, none, .fldA 0, [.t 1]⟩,
 ⟨some 16, none, .load none, [.t 15]⟩,
 ⟨some 17, none, .mov, [.t 4]⟩,
 ⟨some 18, none, .idxA 3, [.t 16, .t 17]⟩,
 ⟨some 19, none, .fldA 0, [.t 18]⟩,
 ⟨some 20, none, .load none, [.t 19]⟩,
 ⟨some 21, none, .fldA 0, [.t 1]⟩,
 ⟨some 22, none, .load none, [.t 21]⟩,
 ⟨some 23, none, .mov, [.t 4]⟩,
 ⟨some 24, none, .idxA 3, [.t 22, .t 23]⟩,
 ⟨some 25, none, .fldA 1, [.t 24]⟩,
 ⟨some 26, none, .load none, [.t 25]⟩,
 ⟨some 27, none, .build [.int .u32 0, .nils, .nils] [(0, 1), (1, 1)], [.t 20, .t 26]⟩,
 ⟨some 5, none, .alloc [.int .u32 0, .nils, .nils], []⟩,
 ⟨none, none, .store 3, [.t 5, .t 27]⟩])
 (.seq (.seq (.reg []
 [⟨some 6, none, .mov, [.c (.int .i64 0)]⟩])
 (.block 2 (.loop ac13_1)))
 (.reg []
 [⟨some 54, none, .fldA 0, [.t 3]⟩,
 ⟨some 55, none, .load none, [.t 54]⟩,
 ⟨some 56, none, .load (some 3), [.t 5]⟩,
 ⟨some 57, none, .bslice 3 88, [.t 56]⟩,
 ⟨some 58, none, .append 3 88 56, [.t 55, .t 57]⟩,
 ⟨some 59, none, .fldA 0, [.t 3]⟩,
 ⟨none, none, .store 1, [.t 59, .t 58]⟩]))))
 (.reg []
 [⟨some 13, none, .mov, [.t 4]⟩,
 ⟨some 14, none, .bin .add .scal, [.t 13, .c (.int .i64 1)]⟩,
 ⟨some 4, none, .mov, [.t 14]⟩]))
/-- "crossroads/crossroadslaw28.plain": 61 temporaries, 1 parameters, results some [.c 2 (some 1)]. -/
def ac13 : AC :=
 .seq (.reg []
 [⟨some 1, none, .box, [.t 0]⟩,
 ⟨some 2, none, .alloc [.nils], []⟩])
 (.seq (.reg []
 [⟨some 7, none, .build [.nils] [], []⟩,
 ⟨some 3, none, .alloc [.nils], []⟩,
 ⟨none, none, .store 1, [.t 3, .t 7]⟩])
 (.seq (.seq (.reg []
 [⟨some 4, none, .mov, [.c (.int .i64 0)]⟩])
 (.block 0 (.loop ac13_2)))
 (.seq (.reg []
 [⟨some 60, none, .load (some 1), [.t 3]⟩,
 ⟨none, none, .store 1, [.t 2, .t 60]⟩])
 .ret)))
theorem i13 : fnInfo Try.prog 13 = some (61, [.c 2 (some 1)], ac13) := by kernel_rfl
/-- "crossroads/crossroadslaw28.border": 10 temporaries, 1 parameters, results some [.c 2 (some 3)]. -/
def ac14 : AC :=
 .seq (.reg []
 [⟨some 1, none, .box, [.t 0]⟩,
 ⟨some 2, none, .alloc [.int .i64 0, .int .i64 0, .bool false], []⟩])
 (.seq (.reg []
 [⟨some 3, none, .fldA 0, [.t 1]⟩,
 ⟨some 4, none, .load none, [.t 3]⟩,
 ⟨some 5, none, .fldA 1, [.t 1]⟩,
 ⟨some 6, none, .load none, [.t 5]⟩,
 ⟨some 7, none, .fldA 2, [.t 1]⟩,
 ⟨some 8, none, .load none, [.t 7]⟩,
 ⟨some 9, none, .build [.int .i64 0, .int .i64 0, .bool false] [(0, 1), (1, 1), (2, 1)], [.t 4, .t 6, .t 8]⟩,
 ⟨none, none, .store 3, [.t 2, .t 9]⟩])
 .ret)
theorem i14 : fnInfo Try.prog 14 = some (10, [.c 2 (some 3)], ac14) := by kernel_rfl
/-- "crossroads/redist.Own": 59 temporaries, 3 parameters, results some [.c 6 (some 1), .t 7]. -/
def ac15 : AC :=
 .seq (.reg []
 [⟨some 3, none, .box, [.t 0]⟩,
 ⟨some 5, none, .box, [.t 2]⟩,
 ⟨some 6, none, .alloc [.nils], []⟩,
 ⟨some 7, none, .mov, [.c (.int .i64 0)]⟩])
 (.seq (.seq (.reg []
 [⟨some 12, none, .load (some 1), [.t 3]⟩,
 ⟨some 13, none, .mov, [.t 1]⟩,
 ⟨some 14, none, .call 30, [.t 12, .t 13]⟩,
 ⟨some 15, none, .unNot, [.t 14]⟩,
 ⟨some 16, none, .mov, [.t 15]⟩,
 ⟨some 17, some (16, false), .load (some 2), [.t 5]⟩,
 ⟨some 18, some (16, false), .call 31, [.t 17]⟩,
 ⟨some 19, some (16, false), .unNot, [.t 18]⟩,
 ⟨some 20, none, .pick, [.t 16, .c (.bool true), .t 19]⟩])
 (.cond (.t 20)
 (.seq (.reg []
 [⟨some 21, none, .load (some 1), [.t 3]⟩,
 ⟨none, none, .store 1, [.t 6, .t 21]⟩,
 ⟨some 7, none, .mov, [.c (.int .i64 1)]⟩])
 .ret)
 .skip))
 (.seq (.reg [[], [0], [], [1, 2], [3], [], [4, 5], [6], [7], [7], [], [10, 8, 6, 0, 1, 2, 3, 4, 5, 6, 7, 8, 10], [9, 11, 0, 1, 2, 3, 4, 5, 6, 7, 8, 9, 10, 11]]
 [⟨some 23, none, .fldA 0, [.t 3]⟩,
 ⟨some 24, none, .load none, [.t 23]⟩,
 ⟨some 25, none, .mov, [.t 1]⟩,
 ⟨some 26, none, .idxA 3, [.t 24, .t 25]⟩,
 ⟨some 27, none, .load (some 3), [.t 26]⟩,
 ⟨some 28, none, .load (some 2), [.t 5]⟩,
 ⟨some 29, none, .call 32, [.t 27, .t 28]⟩,
 ⟨some 22, none, .mov, [.t 29]⟩,
 ⟨some 30, none, .ext 0, [.t 22]⟩,
 ⟨some 31, none, .ext 1, [.t 22]⟩,
 ⟨some 8, none, .alloc [.int .u32 0, .nils, .nils], []⟩,
 ⟨none, none, .store 3, [.t 8, .t 30]⟩,
 ⟨some 9, none, .mov, [.t 31]⟩])
 (.seq (.reg []
 [⟨some 33, none, .load (some 3), [.t 8]⟩,
 ⟨some 34, none, .load (some 2), [.t 5]⟩,
 ⟨some 35, none, .call 33, [.t 33, .t 34]⟩,
 ⟨some 32, none, .mov, [.t 35]⟩,
 ⟨some 36, none, .ext 0, [.t 32]⟩,
 ⟨some 37, none, .ext 1, [.t 32]⟩,
 ⟨some 10, none, .mov, [.t 36]⟩,
 ⟨some 11, none, .mov, [.t 37]⟩])
 (.seq (.block 0 (.seq (.reg []
 [⟨some 39, none, .mov, [.t 11]⟩,
 ⟨some 38, none, .mov, [.t 39]⟩])
 (.cond (.t 38)
 (.seq (.reg []
 [⟨some 40, none, .load (some 1), [.t 3]⟩,
 ⟨none, none, .store 1, [.t 6, .t 40]⟩,
 ⟨some 7, none, .mov, [.c (.int .i64 0)]⟩])
 .ret)
 (.seq (.reg []
 [⟨some 42, none, .fldA 1, [.t 8]⟩,
 ⟨some 43, none, .load none, [.t 42]⟩,
 ⟨some 44, none, .lenL, [.t 43]⟩,
 ⟨some 45, none, .bin .geq .scal, [.t 44, .c (.int .i64 50)]⟩,
 ⟨some 41, none, .mov, [.t 45]⟩])
 (.cond (.t 41)
 (.seq (.reg []
 [⟨some 46, none, .load (some 1), [.t 3]⟩,
 ⟨none, none, .store 1, [.t 6, .t 46]⟩,
 ⟨some 7, none, .mov, [.c (.int .i64 8)]⟩])
 .ret)
 .skip)))))
 (.seq (.reg [[], [0], [1], [], [], [4], [2, 3, 5, 2], [0, 1, 2, 3, 4, 5, 6], [7, 6, 6, 0, 1, 2, 3, 4, 5, 6]]
 [⟨some 47, none, .fldA 1, [.t 8]⟩,
 ⟨some 48, none, .load none, [.t 47]⟩,
 ⟨some 49, none, .call 35, [.t 48]⟩,
 ⟨some 50, none, .mov, [.t 10]⟩,
 ⟨some 51, none, .load (some 2), [.t 5]⟩,
 ⟨some 52, none, .bslice 2 29, [.t 51]⟩,
 ⟨some 53, none, .call 34, [.t 49, .t 50, .t 52]⟩,
 ⟨some 54, none, .fldA 1, [.t 8]⟩,
 ⟨none, none, .store 1, [.t 54, .t 53]⟩])
 (.seq (.reg []
 [⟨some 55, none, .load (some 1), [.t 3]⟩,
 ⟨some 56, none, .mov, [.t 1]⟩,
 ⟨some 57, none, .load (some 3), [.t 8]⟩,
 ⟨some 58, none, .call 36, [.t 55, .t 56, .t 57]⟩,
 ⟨none, none, .store 1, [.t 6, .t 58]⟩,
 ⟨some 7, none, .mov, [.c (.int .i64 0)]⟩])
 .ret))))))
theorem i15 : fnInfo Try.prog 15 = some (59, [.c 6 (some 1), .t 7], ac15) := by kernel_rfl
/-- "crossroads/redist.Tell": 113 temporaries, 3 parameters, results some [.c 6 (some 1), .t 7, .t 8]. -/
def ac17 : AC :=
 .seq (.reg []
 [⟨some 3, none, .box, [.t 0]⟩,
 ⟨some 4, none, .box, [.t 1]⟩,
 ⟨some 5, none, .box, [.t 2]⟩,
 ⟨some 6, none, .alloc [.nils], []⟩,
 ⟨some 7, none, .mov, [.c (.bool false)]⟩,
 ⟨some 8, none, .mov, [.c (.int .i64 0)]⟩])
 (.seq (.seq (.reg []
 [⟨some 14, none, .load (some 1), [.t 3]⟩,
 ⟨some 15, none, .fldA 0, [.t 4]⟩,
 ⟨some 16, none, .load none, [.t 15]⟩,
 ⟨some 17, none, .call 30, [.t 14, .t 16]⟩,
 ⟨some 18, none, .unNot, [.t 17]⟩,
 ⟨some 19, none, .mov, [.t 18]⟩,
 ⟨some 20, some (19, false), .load (some 1), [.t 3]⟩,
 ⟨some 21, some (19, false), .fldA 1, [.t 4]⟩,
 ⟨some 22, some (19, false), .load none, [.t 21]⟩,
 ⟨some 23, some (19, false), .call 30, [.t 20, .t 22]⟩,
 ⟨some 24, some (19, false), .unNot, [.t 23]⟩,
 ⟨some 25, none, .pick, [.t 19, .c (.bool true), .t 24]⟩,
 ⟨some 26, none, .mov, [.t 25]⟩,
 ⟨some 27, some (26, false), .fldA 0, [.t 4]⟩,
 ⟨some 28, some (26, false), .load none, [.t 27]⟩,
 ⟨some 29, some (26, false), .fldA 1, [.t 4]⟩,
 ⟨some 30, some (26, false), .load none, [.t 29]⟩,
 ⟨some 31, some (26, false), .bin .eql .scal, [.t 28, .t 30]⟩,
 ⟨some 32, none, .pick, [.t 26, .c (.bool true), .t 31]⟩,
 ⟨some 33, none, .mov, [.t 32]⟩,
 ⟨some 34, some (33, false), .load (some 2), [.t 5]⟩,
 ⟨some 35, some (33, false), .call 31, [.t 34]⟩,
 ⟨some 36, some (33, false), .unNot, [.t 35]⟩,
 ⟨some 37, none, .pick, [.t 33, .c (.bool true), .t 36]⟩])
 (.cond (.t 37)
 (.seq (.reg []
 [⟨some 38, none, .load (some 1), [.t 3]⟩,
 ⟨none, none, .store 1, [.t 6, .t 38]⟩,
 ⟨some 7, none, .mov, [.c (.bool false)]⟩,
 ⟨some 8, none, .mov, [.c (.int .i64 1)]⟩])
 .ret)
 .skip))
 (.seq (.reg []
 [⟨some 40, none, .load (some 1), [.t 3]⟩,
 ⟨some 41, none, .fldA 0, [.t 4]⟩,
 ⟨some 42, none, .load none, [.t 41]⟩,
 ⟨some 43, none, .load (some 2), [.t 5]⟩,
 ⟨some 44, none, .call 21, [.t 40, .t 42, .t 43]⟩,
 ⟨some 39, none, .mov, [.t 44]⟩,
 ⟨some 45, none, .ext 0, [.t 39]⟩,
 ⟨some 46, none, .ext 1, [.t 39]⟩,
 ⟨some 9, none, .alloc [.int .u32 0, .int .i64 0, .int .u32 0, .bool false], []⟩,
 ⟨none, none, .store 4, [.t 9, .t 45]⟩,
 ⟨some 10, none, .mov, [.t 46]⟩])
 (.seq (.reg []
 [⟨some 47, none, .fldA 0, [.t 3]⟩,
 ⟨some 48, none, .load none, [.t 47]⟩,
 ⟨some 49, none, .fldA 1, [.t 4]⟩,
 ⟨some 50, none, .load none, [.t 49]⟩,
 ⟨some 51, none, .idxA 3, [.t 48, .t 50]⟩,
 ⟨some 52, none, .load (some 3), [.t 51]⟩,
 ⟨some 11, none, .alloc [.int .u32 0, .nils, .nils], []⟩,
 ⟨none, none, .store 3, [.t 11, .t 52]⟩])
 (.seq (.seq (.reg []
 [⟨some 53, none, .mov, [.t 10]⟩,
 ⟨some 54, none, .unNot, [.t 53]⟩,
 ⟨some 55, none, .mov, [.t 54]⟩,
 ⟨some 56, some (55, false), .load (some 3), [.t 4]⟩,
 ⟨some 57, some (55, false), .load (some 3), [.t 11]⟩,
 ⟨some 58, some (55, false), .load (some 4), [.t 9]⟩,
 ⟨some 59, some (55, false), .call 42, [.t 56, .t 57, .t 58]⟩,
 ⟨some 60, some (55, false), .unNot, [.t 59]⟩,
 ⟨some 61, none, .pick, [.t 55, .c (.bool true), .t 60]⟩])
 (.cond (.t 61)
 (.seq (.reg []
 [⟨some 62, none, .load (some 1), [.t 3]⟩,
 ⟨none, none, .store 1, [.t 6, .t 62]⟩,
 ⟨some 7, none, .mov, [.c (.bool false)]⟩,
 ⟨some 8, none, .mov, [.c (.int .i64 0)]⟩])
 .ret)
 .skip))
 (.seq (.reg []
 [⟨some 63, none, .fldA 2, [.t 4]⟩,
 ⟨some 64, none, .load none, [.t 63]⟩,
 ⟨some 65, none, .fldA 3, [.t 9]⟩,
 ⟨none, none, .store 1, [.t 65, .t 64]⟩])
 (.seq (.reg []
 [⟨some 67, none, .load (some 3), [.t 11]⟩,
 ⟨some 68, none, .load (some 2), [.t 5]⟩,
 ⟨some 69, none, .call 43, [.t 67, .t 68]⟩,
 ⟨some 66, none, .mov, [.t 69]⟩,
 ⟨some 70, none, .ext 0, [.t 66]⟩,
 ⟨some 71, none, .ext 1, [.t 66]⟩,
 ⟨some 12, none, .mov, [.t 70]⟩,
 ⟨some 13, none, .mov, [.t 71]⟩])
 (.seq (.reg []
 [⟨some 72, none, .fldA 2, [.t 11]⟩,
 ⟨some 73, none, .load none, [.t 72]⟩,
 ⟨some 74, none, .call 44, [.t 73]⟩,
 ⟨some 75, none, .fldA 2, [.t 11]⟩,
 ⟨none, none, .store 1, [.t 75, .t 74]⟩])
 (.seq (.block 0 (.seq (.reg [[], [0], [1], [2, 1], [1], [3, 4, 1], [5, 1], [1], [6, 7, 1], [1, 8], [9, 1]]
 [⟨some 84, none, .mov, [.t 13]⟩,
 ⟨some 85, none, .mov, [.t 84]⟩,
 ⟨some 86, some (85, true), .fldA 2, [.t 11]⟩,
 ⟨some 87, some (85, true), .load none, [.t 86]⟩,
 ⟨some 88, some (85, true), .mov, [.t 12]⟩,
 ⟨some 89, some (85, true), .idxA 4, [.t 87, .t 88]⟩,
 ⟨some 90, some (85, true), .load (some 4), [.t 89]⟩,
 ⟨some 91, some (85, true), .load (some 4), [.t 9]⟩,
 ⟨some 92, some (85, true), .bin .eql (.flat [.int .u32, .int .i64, .int .u32, .bool]), [.t 90, .t 91]⟩,
 ⟨some 93, none, .pick, [.t 85, .t 92, .c (.bool false)]⟩,
 ⟨some 83, none, .mov, [.t 93]⟩])
 (.cond (.t 83)
 (.seq (.reg []
 [⟨some 94, none, .load (some 1), [.t 3]⟩,
 ⟨none, none, .store 1, [.t 6, .t 94]⟩,
 ⟨some 7, none, .mov, [.c (.bool false)]⟩,
 ⟨some 8, none, .mov, [.c (.int .i64 0)]⟩])
 .ret)
 (.seq (.reg []
 [⟨some 96, none, .mov, [.t 13]⟩,
 ⟨some 95, none, .mov, [.t 96]⟩])
 (.cond (.t 95)
 (.reg []
 [⟨some 97, none, .fldA 2, [.t 11]⟩,
 ⟨some 98, none, .load none, [.t 97]⟩,
 ⟨some 99, none, .mov, [.t 12]⟩,
 ⟨some 100, none, .load (some 4), [.t 9]⟩,
 ⟨some 101, none, .idxA 4, [.t 98, .t 99]⟩,
 ⟨none, none, .store 4, [.t 101, .t 100]⟩])
 (.seq (.reg []
 [⟨some 103, none, .fldA 2, [.t 11]⟩,
 ⟨some 104, none, .load none, [.t 103]⟩,
 ⟨some 105, none, .lenL, [.t 104]⟩,
 ⟨some 106, none, .bin .geq .scal, [.t 105, .c (.int .i64 50)]⟩,
 ⟨some 102, none, .mov, [.t 106]⟩])
 (.cond (.t 102)
 (.seq (.reg []
 [⟨some 107, none, .load (some 1), [.t 3]⟩,
 ⟨none, none, .store 1, [.t 6, .t 107]⟩,
 ⟨some 7, none, .mov, [.c (.bool false)]⟩,
 ⟨some 8, none, .mov, [.c (.int .i64 8)]⟩])
 .ret)
 (.reg []
 [⟨some 76, none, .fldA 2, [.t 11]⟩,
 ⟨some 77, none, .load none, [.t 76]⟩,
 ⟨some 78, none, .mov, [.t 12]⟩,
 ⟨some 79, none, .load (some 4), [.t 9]⟩,
 ⟨some 80, none, .bslice 4 42, [.t 79]⟩,
 ⟨some 81, none, .call 45, [.t 77, .t 78, .t 80]⟩,
 ⟨some 82, none, .fldA 2, [.t 11]⟩,
 ⟨none, none, .store 1, [.t 82, .t 81]⟩]))))))))
 (.seq (.reg []
 [⟨some 108, none, .load (some 1), [.t 3]⟩,
 ⟨some 109, none, .fldA 1, [.t 4]⟩,
 ⟨some 110, none, .load none, [.t 109]⟩,
 ⟨some 111, none, .load (some 3), [.t 11]⟩,
 ⟨some 112, none, .call 36, [.t 108, .t 110, .t 111]⟩,
 ⟨none, none, .store 1, [.t 6, .t 112]⟩,
 ⟨some 7, none, .mov, [.c (.bool true)]⟩,
 ⟨some 8, none, .mov, [.c (.int .i64 0)]⟩])
 .ret)))))))))
theorem i17 : fnInfo Try.prog 17 = some (113, [.c 6 (some 1), .t 7, .t 8], ac17) := by kernel_rfl
/-- "crossroads/crossroadsref28.Tell": 125 temporaries, 3 parameters, results some [.c 6 (some 1), .t 7, .t 8]. -/
def ac18 : AC :=
 .seq (.reg []
 [⟨some 3, none, .box, [.t 0]⟩,
 ⟨some 4, none, .box, [.t 1]⟩,
 ⟨some 5, none, .box, [.t 2]⟩,
 ⟨some 6, none, .alloc [.nils], []⟩,
 ⟨some 7, none, .mov, [.c (.bool false)]⟩,
 ⟨some 8, none, .mov, [.c (.int .i64 0)]⟩])
 (.seq (.seq (.reg []
 [⟨some 14, none, .fldA 0, [.t 4]⟩,
 ⟨some 15, none, .load none, [.t 14]⟩,
 ⟨some 16, none, .bin .lss .scal, [.t 15, .c (.int .i64 0)]⟩,
 ⟨some 17, none, .mov, [.t 16]⟩,
 ⟨some 18, some (17, false), .fldA 0, [.t 4]⟩,
 ⟨some 19, some (17, false), .load none, [.t 18]⟩,
 ⟨some 20, some (17, false), .fldA 0, [.t 3]⟩,
 ⟨some 21, some (17, false), .load none, [.t 20]⟩,
 ⟨some 22, some (17, false), .lenL, [.t 21]⟩,
 ⟨some 23, some (17, false), .bin .geq .scal, [.t 19, .t 22]⟩,
 ⟨some 24, none, .pick, [.t 17, .c (.bool true), .t 23]⟩,
 ⟨some 25, none, .mov, [.t 24]⟩,
 ⟨some 26, some (25, false), .fldA 1, [.t 4]⟩,
 ⟨some 27, some (25, false), .load none, [.t 26]⟩,
 ⟨some 28, some (25, false), .bin .lss .scal, [.t 27, .c (.int .i64 0)]⟩,
 ⟨some 29, none, .pick, [.t 25, .c (.bool true), .t 28]⟩,
 ⟨some 30, none, .mov, [.t 29]⟩,
 ⟨some 31, some (30, false), .fldA 1, [.t 4]⟩,
 ⟨some 32, some (30, false), .load none, [.t 31]⟩,
 ⟨some 33, some (30, false), .fldA 0, [.t 3]⟩,
 ⟨some 34, some (30, false), .load none, [.t 33]⟩,
 ⟨some 35, some (30, false), .lenL, [.t 34]⟩,
 ⟨some 36, some (30, false), .bin .geq .scal, [.t 32, .t 35]⟩,
 ⟨some 37, none, .pick, [.t 30, .c (.bool true), .t 36]⟩,
 ⟨some 38, none, .mov, [.t 37]⟩,
 ⟨some 39, some (38, false), .fldA 0, [.t 4]⟩,
 ⟨some 40, some (38, false), .load none, [.t 39]⟩,
 ⟨some 41, some (38, false), .fldA 1, [.t 4]⟩,
 ⟨some 42, some (38, false), .load none, [.t 41]⟩,
 ⟨some 43, some (38, false), .bin .eql .scal, [.t 40, .t 42]⟩,
 ⟨some 44, none, .pick, [.t 38, .c (.bool true), .t 43]⟩,
 ⟨some 45, none, .mov, [.t 44]⟩,
 ⟨some 46, some (45, false), .load (some 2), [.t 5]⟩,
 ⟨some 47, some (45, false), .call 37, [.t 46]⟩,
 ⟨some 48, some (45, false), .unNot, [.t 47]⟩,
 ⟨some 49, none, .pick, [.t 45, .c (.bool true), .t 48]⟩])
 (.cond (.t 49)
 (.seq (.reg []
 [⟨some 50, none, .load (some 1), [.t 3]⟩,
 ⟨none, none, .store 1, [.t 6, .t 50]⟩,
 ⟨some 7, none, .mov, [.c (.bool false)]⟩,
 ⟨some 8, none, .mov, [.c (.int .i64 1)]⟩])
 .ret)
 .skip))
 (.seq (.reg []
 [⟨some 52, none, .load (some 1), [.t 3]⟩,
 ⟨some 53, none, .fldA 0, [.t 4]⟩,
 ⟨some 54, none, .load none, [.t 53]⟩,
 ⟨some 55, none, .load (some 2), [.t 5]⟩,
 ⟨some 56, none, .call 22, [.t 52, .t 54, .t 55]⟩,
 ⟨some 51, none, .mov, [.t 56]⟩,
 ⟨some 57, none, .ext 0, [.t 51]⟩,
 ⟨some 58, none, .ext 1, [.t 51]⟩,
 ⟨some 9, none, .alloc [.int .u32 0, .int .i64 0, .int .u32 0, .bool false], []⟩,
 ⟨none, none, .store 4, [.t 9, .t 57]⟩,
 ⟨some 10, none, .mov, [.t 58]⟩])
 (.seq (.reg []
 [⟨some 59, none, .fldA 0, [.t 3]⟩,
 ⟨some 60, none, .load none, [.t 59]⟩,
 ⟨some 61, none, .fldA 1, [.t 4]⟩,
 ⟨some 62, none, .load none, [.t 61]⟩,
 ⟨some 63, none, .idxA 3, [.t 60, .t 62]⟩,
 ⟨some 64, none, .load (some 3), [.t 63]⟩,
 ⟨some 11, none, .alloc [.int .u32 0, .nils, .nils], []⟩,
 ⟨none, none, .store 3, [.t 11, .t 64]⟩])
 (.seq (.seq (.reg []
 [⟨some 65, none, .mov, [.t 10]⟩,
 ⟨some 66, none, .unNot, [.t 65]⟩,
 ⟨some 67, none, .mov, [.t 66]⟩,
 ⟨some 68, some (67, false), .fldA 2, [.t 9]⟩,
 ⟨some 69, some (67, false), .load none, [.t 68]⟩,
 ⟨some 70, some (67, false), .fldA 0, [.t 11]⟩,
 ⟨some 71, some (67, false), .load none, [.t 70]⟩,
 ⟨some 72, some (67, false), .bin .eql .scal, [.t 69, .t 71]⟩,
 ⟨some 73, none, .pick, [.t 67, .c (.bool true), .t 72]⟩,
 ⟨some 74, none, .mov, [.t 73]⟩,
 ⟨some 75, some (74, false), .fldA 2, [.t 4]⟩,
 ⟨some 76, some (74, false), .load none, [.t 75]⟩,
 ⟨some 77, some (74, false), .mov, [.t 76]⟩,
 ⟨some 78, some (77, true), .fldA 3, [.t 9]⟩,
 ⟨some 79, some (77, true), .load none, [.t 78]⟩,
 ⟨some 80, some (74, false), .pick, [.t 77, .t 79, .c (.bool false)]⟩,
 ⟨some 81, none, .pick, [.t 74, .c (.bool true), .t 80]⟩,
 ⟨some 82, none, .mov, [.t 81]⟩,
 ⟨some 83, some (82, false), .load (some 3), [.t 11]⟩,
 ⟨some 84, some (82, false), .load (some 2), [.t 5]⟩,
 ⟨some 85, some (82, false), .call 38, [.t 83, .t 84]⟩,
 ⟨some 86, none, .pick, [.t 82, .c (.bool true), .t 85]⟩])
 (.cond (.t 86)
 (.seq (.reg []
 [⟨some 87, none, .load (some 1), [.t 3]⟩,
 ⟨none, none, .store 1, [.t 6, .t 87]⟩,
 ⟨some 7, none, .mov, [.c (.bool false)]⟩,
 ⟨some 8, none, .mov, [.c (.int .i64 0)]⟩])
 .ret)
 .skip))
 (.seq (.reg []
 [⟨some 88, none, .fldA 2, [.t 4]⟩,
 ⟨some 89, none, .load none, [.t 88]⟩,
 ⟨some 90, none, .fldA 3, [.t 9]⟩,
 ⟨none, none, .store 1, [.t 90, .t 89]⟩])
 (.seq (.reg []
 [⟨some 92, none, .load (some 1), [.t 3]⟩,
 ⟨some 93, none, .fldA 1, [.t 4]⟩,
 ⟨some 94, none, .load none, [.t 93]⟩,
 ⟨some 95, none, .load (some 2), [.t 5]⟩,
 ⟨some 96, none, .call 22, [.t 92, .t 94, .t 95]⟩,
 ⟨some 91, none, .mov, [.t 96]⟩,
 ⟨some 97, none, .ext 0, [.t 91]⟩,
 ⟨some 98, none, .ext 1, [.t 91]⟩,
 ⟨some 12, none, .alloc [.int .u32 0, .int .i64 0, .int .u32 0, .bool false], []⟩,
 ⟨none, none, .store 4, [.t 12, .t 97]⟩,
 ⟨some 13, none, .mov, [.t 98]⟩])
 (.seq (.seq (.reg []
 [⟨some 99, none, .mov, [.t 13]⟩,
 ⟨some 100, none, .unNot, [.t 99]⟩,
 ⟨some 101, none, .mov, [.t 100]⟩,
 ⟨some 102, some (101, true), .fldA 2, [.t 11]⟩,
 ⟨some 103, some (101, true), .load none, [.t 102]⟩,
 ⟨some 104, some (101, true), .lenL, [.t 103]⟩,
 ⟨some 105, some (101, true), .bin .geq .scal, [.t 104, .c (.int .i64 50)]⟩,
 ⟨some 106, none, .pick, [.t 101, .t 105, .c (.bool false)]⟩])
 (.cond (.t 106)
 (.seq (.reg []
 [⟨some 107, none, .load (some 1), [.t 3]⟩,
 ⟨none, none, .store 1, [.t 6, .t 107]⟩,
 ⟨some 7, none, .mov, [.c (.bool false)]⟩,
 ⟨some 8, none, .mov, [.c (.int .i64 8)]⟩])
 .ret)
 .skip))
 (.seq (.reg []
 [⟨some 108, none, .fldA 2, [.t 11]⟩,
 ⟨some 109, none, .load none, [.t 108]⟩,
 ⟨some 110, none, .load (some 4), [.t 9]⟩,
 ⟨some 111, none, .call 46, [.t 109, .t 110]⟩,
 ⟨some 112, none, .fldA 2, [.t 11]⟩,
 ⟨none, none, .store 1, [.t 112, .t 111]⟩])
 (.seq (.reg [[], [], [1], [], [0, 2, 3], [], [5], [6, 4], [7], [7], [8, 9, 7], [7, 10], [4, 7, 0, 1, 2, 3, 4], [11, 12, 0, 1, 2, 3, 4, 5, 6, 7, 8, 9, 10, 11, 12], [13, 0, 1, 2, 3, 4, 5, 6, 7, 8, 9, 10, 11, 12, 13]]
 [⟨some 113, none, .load (some 1), [.t 3]⟩,
 ⟨some 114, none, .fldA 1, [.t 4]⟩,
 ⟨some 115, none, .load none, [.t 114]⟩,
 ⟨some 116, none, .load (some 3), [.t 11]⟩,
 ⟨some 117, none, .call 41, [.t 113, .t 115, .t 116]⟩,
 ⟨some 118, none, .mov, [.t 13]⟩,
 ⟨some 119, none, .unNot, [.t 118]⟩,
 ⟨some 120, none, .mov, [.t 119]⟩,
 ⟨some 121, some (120, false), .load (some 4), [.t 12]⟩,
 ⟨some 122, some (120, false), .load (some 4), [.t 9]⟩,
 ⟨some 123, some (120, false), .bin .neq (.flat [.int .u32, .int .i64, .int .u32, .bool]), [.t 121, .t 122]⟩,
 ⟨some 124, none, .pick, [.t 120, .c (.bool true), .t 123]⟩,
 ⟨none, none, .store 1, [.t 6, .t 117]⟩,
 ⟨some 7, none, .mov, [.t 124]⟩,
 ⟨some 8, none, .mov, [.c (.int .i64 0)]⟩])
 .ret)))))))))
theorem i18 : fnInfo Try.prog 18 = some (125, [.c 6 (some 1), .t 7, .t 8], ac18) := by kernel_rfl
/-- "crossroads/redist.Cease": 30 temporaries, 3 parameters, results some [.c 6 (some 1), .t 7]. -/
def ac19 : AC :=
 .seq (.reg []
 [⟨some 3, none, .box, [.t 0]⟩,
 ⟨some 5, none, .box, [.t 2]⟩,
 ⟨some 6, none, .alloc [.nils], []⟩,
 ⟨some 7, none, .mov, [.c (.bool false)]⟩])
 (.seq (.seq (.reg []
 [⟨some 10, none, .load (some 1), [.t 3]⟩,
 ⟨some 11, none, .mov, [.t 1]⟩,
 ⟨some 12, none, .call 30, [.t 10, .t 11]⟩,
 ⟨some 13, none, .unNot, [.t 12]⟩])
 (.cond (.t 13)
 (.seq (.reg []
 [⟨some 14, none, .load (some 1), [.t 3]⟩,
 ⟨none, none, .store 1, [.t 6, .t 14]⟩,
 ⟨some 7, none, .mov, [.c (.bool false)]⟩])
 .ret)
 .skip))
 (.seq (.reg [[], [0], [], [1, 2], [3], [], [4, 5], [6], [7], [7], [], [10, 8, 6, 0, 1, 2, 3, 4, 5, 6, 7, 8, 10], [9, 11, 0, 1, 2, 3, 4, 5, 6, 7, 8, 9, 10, 11]]
 [⟨some 16, none, .fldA 0, [.t 3]⟩,
 ⟨some 17, none, .load none, [.t 16]⟩,
 ⟨some 18, none, .mov, [.t 1]⟩,
 ⟨some 19, none, .idxA 3, [.t 17, .t 18]⟩,
 ⟨some 20, none, .load (some 3), [.t 19]⟩,
 ⟨some 21, none, .load (some 2), [.t 5]⟩,
 ⟨some 22, none, .call 32, [.t 20, .t 21]⟩,
 ⟨some 15, none, .mov, [.t 22]⟩,
 ⟨some 23, none, .ext 0, [.t 15]⟩,
 ⟨some 24, none, .ext 1, [.t 15]⟩,
 ⟨some 8, none, .alloc [.int .u32 0, .nils, .nils], []⟩,
 ⟨none, none, .store 3, [.t 8, .t 23]⟩,
 ⟨some 9, none, .mov, [.t 24]⟩])
 (.seq (.reg []
 [⟨some 25, none, .load (some 1), [.t 3]⟩,
 ⟨some 26, none, .mov, [.t 1]⟩,
 ⟨some 27, none, .load (some 3), [.t 8]⟩,
 ⟨some 28, none, .call 36, [.t 25, .t 26, .t 27]⟩,
 ⟨some 29, none, .mov, [.t 9]⟩,
 ⟨none, none, .store 1, [.t 6, .t 28]⟩,
 ⟨some 7, none, .mov, [.t 29]⟩])
 .ret)))
theorem i19 : fnInfo Try.prog 19 = some (30, [.c 6 (some 1), .t 7], ac19) := by kernel_rfl
/-- "crossroads/redist.Has": 47 temporaries, 3 parameters, results some [.c 6 (some 4), .t 7]. -/
def ac21 : AC :=
 .seq (.reg []
 [⟨some 3, none, .box, [.t 0]⟩,
 ⟨some 5, none, .box, [.t 2]⟩,
 ⟨some 6, none, .alloc [.int .u32 0, .int .i64 0, .int .u32 0, .bool false], []⟩,
 ⟨some 7, none, .mov, [.c (.bool false)]⟩])
 (.seq (.seq (.reg []
 [⟨some 13, none, .load (some 1), [.t 3]⟩,
 ⟨some 14, none, .mov, [.t 1]⟩,
 ⟨some 15, none, .call 30, [.t 13, .t 14]⟩,
 ⟨some 16, none, .unNot, [.t 15]⟩])
 (.cond (.t 16)
 (.seq (.reg []
 [⟨some 17, none, .build [.int .u32 0, .int .i64 0, .int .u32 0, .bool false] [], []⟩,
 ⟨none, none, .store 4, [.t 6, .t 17]⟩,
 ⟨some 7, none, .mov, [.c (.bool false)]⟩])
 .ret)
 .skip))
 (.seq (.reg []
 [⟨some 18, none, .fldA 0, [.t 3]⟩,
 ⟨some 19, none, .load none, [.t 18]⟩,
 ⟨some 20, none, .mov, [.t 1]⟩,
 ⟨some 21, none, .idxA 3, [.t 19, .t 20]⟩,
 ⟨some 22, none, .load (some 3), [.t 21]⟩,
 ⟨some 8, none, .alloc [.int .u32 0, .nils, .nils], []⟩,
 ⟨none, none, .store 3, [.t 8, .t 22]⟩])
 (.seq (.seq (.reg []
 [⟨some 24, none, .load (some 3), [.t 8]⟩,
 ⟨some 25, none, .load (some 2), [.t 5]⟩,
 ⟨some 26, none, .call 33, [.t 24, .t 25]⟩,
 ⟨some 23, none, .mov, [.t 26]⟩,
 ⟨some 27, none, .ext 0, [.t 23]⟩,
 ⟨some 28, none, .ext 1, [.t 23]⟩,
 ⟨some 9, none, .mov, [.t 27]⟩,
 ⟨some 10, none, .mov, [.t 28]⟩])
 (.seq (.reg []
 [⟨some 29, none, .mov, [.t 10]⟩])
 (.cond (.t 29)
 (.seq (.reg []
 [⟨some 30, none, .load (some 2), [.t 5]⟩,
 ⟨some 31, none, .fldA 0, [.t 8]⟩,
 ⟨some 32, none, .load none, [.t 31]⟩,
 ⟨some 33, none, .build [.int .u32 0, .int .i64 0, .int .u32 0, .bool false] [(0, 2), (2, 1)], [.t 30, .t 32]⟩,
 ⟨none, none, .store 4, [.t 6, .t 33]⟩,
 ⟨some 7, none, .mov, [.c (.bool true)]⟩])
 .ret)
 .skip)))
 (.seq (.seq (.reg []
 [⟨some 35, none, .load (some 3), [.t 8]⟩,
 ⟨some 36, none, .load (some 2), [.t 5]⟩,
 ⟨some 37, none, .call 43, [.t 35, .t 36]⟩,
 ⟨some 34, none, .mov, [.t 37]⟩,
 ⟨some 38, none, .ext 0, [.t 34]⟩,
 ⟨some 39, none, .ext 1, [.t 34]⟩,
 ⟨some 11, none, .mov, [.t 38]⟩,
 ⟨some 12, none, .mov, [.t 39]⟩])
 (.seq (.reg []
 [⟨some 40, none, .mov, [.t 12]⟩])
 (.cond (.t 40)
 (.seq (.reg []
 [⟨some 41, none, .fldA 2, [.t 8]⟩,
 ⟨some 42, none, .load none, [.t 41]⟩,
 ⟨some 43, none, .mov, [.t 11]⟩,
 ⟨some 44, none, .idxA 4, [.t 42, .t 43]⟩,
 ⟨some 45, none, .load (some 4), [.t 44]⟩,
 ⟨none, none, .store 4, [.t 6, .t 45]⟩,
 ⟨some 7, none, .mov, [.c (.bool true)]⟩])
 .ret)
 .skip)))
 (.seq (.reg []
 [⟨some 46, none, .build [.int .u32 0, .int .i64 0, .int .u32 0, .bool false] [], []⟩,
 ⟨none, none, .store 4, [.t 6, .t 46]⟩,
 ⟨some 7, none, .mov, [.c (.bool false)]⟩])
 .ret)))))
theorem i21 : fnInfo Try.prog 21 = some (47, [.c 6 (some 4), .t 7], ac21) := by kernel_rfl
def ac22_1 : AC :=
 .seq (.seq (.reg []
 [⟨some 34, none, .mov, [.t 8]⟩,
 ⟨some 35, none, .fldA 0, [.t 3]⟩,
 ⟨some 36, none, .load none, [.t 35]⟩,
 ⟨some 37, none, .mov, [.t 1]⟩,
 ⟨some 38, none, .idxA 3, [.t 36, .t 37]⟩,
 ⟨some 39, none, .fldA 2, [.t 38]⟩,
 ⟨some 40, none, .load none, [.t 39]⟩,
 ⟨some 41, none, .lenL, [.t 40]⟩,
 ⟨some 42, none, .bin .lss .scal, [.t 34, .t 41]⟩])
 (.cond (.t 42)
 .skip
 (.exit 0)))
 (.seq (.block 1 (.seq (.reg [[], [0], [], [1, 2], [3], [4], [], [5, 6], [7], [8], [], [9, 10]]
 [⟨some 45, none, .fldA 0, [.t 3]⟩,
 ⟨some 46, none, .load none, [.t 45]⟩,
 ⟨some 47, none, .mov, [.t 1]⟩,
 ⟨some 48, none, .idxA 3, [.t 46, .t 47]⟩,
 ⟨some 49, none, .fldA 2, [.t 48]⟩,
 ⟨some 50, none, .load none, [.t 49]⟩,
 ⟨some 51, none, .mov, [.t 8]⟩,
 ⟨some 52, none, .idxA 4, [.t 50, .t 51]⟩,
 ⟨some 53, none, .fldA 0, [.t 52]⟩,
 ⟨some 54, none, .load (some 2), [.t 53]⟩,
 ⟨some 55, none, .load (some 2), [.t 5]⟩,
 ⟨some 56, none, .bin .eql (.flat [.int .u32, .int .i64]), [.t 54, .t 55]⟩])
 (.cond (.t 56)
 (.seq (.reg []
 [⟨some 57, none, .fldA 0, [.t 3]⟩,
 ⟨some 58, none, .load none, [.t 57]⟩,
 ⟨some 59, none, .mov, [.t 1]⟩,
 ⟨some 60, none, .idxA 3, [.t 58, .t 59]⟩,
 ⟨some 61, none, .fldA 2, [.t 60]⟩,
 ⟨some 62, none, .load none, [.t 61]⟩,
 ⟨some 63, none, .mov, [.t 8]⟩,
 ⟨some 64, none, .idxA 4, [.t 62, .t 63]⟩,
 ⟨some 65, none, .load (some 4), [.t 64]⟩,
 ⟨none, none, .store 4, [.t 6, .t 65]⟩,
 ⟨some 7, none, .mov, [.c (.bool true)]⟩])
 .ret)
 .skip)))
 (.reg []
 [⟨some 43, none, .mov, [.t 8]⟩,
 ⟨some 44, none, .bin .add .scal, [.t 43, .c (.int .i64 1)]⟩,
 ⟨some 8, none, .mov, [.t 44]⟩]))
/-- "crossroads/crossroadsref28.Has": 67 temporaries, 3 parameters, results some [.c 6 (some 4), .t 7]. -/
def ac22 : AC :=
 .seq (.reg []
 [⟨some 3, none, .box, [.t 0]⟩,
 ⟨some 5, none, .box, [.t 2]⟩,
 ⟨some 6, none, .alloc [.int .u32 0, .int .i64 0, .int .u32 0, .bool false], []⟩,
 ⟨some 7, none, .mov, [.c (.bool false)]⟩])
 (.seq (.seq (.reg []
 [⟨some 9, none, .mov, [.t 1]⟩,
 ⟨some 10, none, .bin .lss .scal, [.t 9, .c (.int .i64 0)]⟩,
 ⟨some 11, none, .mov, [.t 10]⟩,
 ⟨some 12, some (11, false), .mov, [.t 1]⟩,
 ⟨some 13, some (11, false), .fldA 0, [.t 3]⟩,
 ⟨some 14, some (11, false), .load none, [.t 13]⟩,
 ⟨some 15, some (11, false), .lenL, [.t 14]⟩,
 ⟨some 16, some (11, false), .bin .geq .scal, [.t 12, .t 15]⟩,
 ⟨some 17, none, .pick, [.t 11, .c (.bool true), .t 16]⟩])
 (.cond (.t 17)
 (.seq (.reg []
 [⟨some 18, none, .build [.int .u32 0, .int .i64 0, .int .u32 0, .bool false] [], []⟩,
 ⟨none, none, .store 4, [.t 6, .t 18]⟩,
 ⟨some 7, none, .mov, [.c (.bool false)]⟩])
 .ret)
 .skip))
 (.seq (.seq (.reg [[], [0], [], [1, 2], [3], [], [4, 5]]
 [⟨some 19, none, .fldA 0, [.t 3]⟩,
 ⟨some 20, none, .load none, [.t 19]⟩,
 ⟨some 21, none, .mov, [.t 1]⟩,
 ⟨some 22, none, .idxA 3, [.t 20, .t 21]⟩,
 ⟨some 23, none, .load (some 3), [.t 22]⟩,
 ⟨some 24, none, .load (some 2), [.t 5]⟩,
 ⟨some 25, none, .call 38, [.t 23, .t 24]⟩])
 (.cond (.t 25)
 (.seq (.reg [[], [], [1], [], [2, 3], [4], [5], [0, 6], [7, 0, 1, 2, 3, 4, 5, 6, 7], [8, 0, 1, 2, 3, 4, 5, 6, 7, 8]]
 [⟨some 26, none, .load (some 2), [.t 5]⟩,
 ⟨some 27, none, .fldA 0, [.t 3]⟩,
 ⟨some 28, none, .load none, [.t 27]⟩,
 ⟨some 29, none, .mov, [.t 1]⟩,
 ⟨some 30, none, .idxA 3, [.t 28, .t 29]⟩,
 ⟨some 31, none, .fldA 0, [.t 30]⟩,
 ⟨some 32, none, .load none, [.t 31]⟩,
 ⟨some 33, none, .build [.int .u32 0, .int .i64 0, .int .u32 0, .bool false] [(0, 2), (2, 1)], [.t 26, .t 32]⟩,
 ⟨none, none, .store 4, [.t 6, .t 33]⟩,
 ⟨some 7, none, .mov, [.c (.bool true)]⟩])
 .ret)
 .skip))
 (.seq (.seq (.reg []
 [⟨some 8, none, .mov, [.c (.int .i64 0)]⟩])
 (.block 0 (.loop ac22_1)))
 (.seq (.reg []
 [⟨some 66, none, .build [.int .u32 0, .int .i64 0, .int .u32 0, .bool false] [], []⟩,
 ⟨none, none, .store 4, [.t 6, .t 66]⟩,
 ⟨some 7, none, .mov, [.c (.bool false)]⟩])
 .ret))))
theorem i22 : fnInfo Try.prog 22 = some (67, [.c 6 (some 4), .t 7], ac22) := by kernel_rfl
/-- "crossroads/crossroadslaw28.ext": 10 temporaries, 1 parameters, results some [.c 2 (some 4)]. -/
def ac23 : AC :=
 .seq (.reg []
 [⟨some 1, none, .box, [.t 0]⟩,
 ⟨some 2, none, .alloc [.int .u32 0, .int .i64 0, .int .u32 0, .bool false], []⟩])
 (.seq (.reg []
 [⟨some 3, none, .fldA 0, [.t 1]⟩,
 ⟨some 4, none, .load (some 2), [.t 3]⟩,
 ⟨some 5, none, .fldA 2, [.t 1]⟩,
 ⟨some 6, none, .load none, [.t 5]⟩,
 ⟨some 7, none, .fldA 3, [.t 1]⟩,
 ⟨some 8, none, .load none, [.t 7]⟩,
 ⟨some 9, none, .build [.int .u32 0, .int .i64 0, .int .u32 0, .bool false] [(0, 2), (2, 1), (3, 1)], [.t 4, .t 6, .t 8]⟩,
 ⟨none, none, .store 4, [.t 2, .t 9]⟩])
 .ret)
theorem i23 : fnInfo Try.prog 23 = some (10, [.c 2 (some 4)], ac23) := by kernel_rfl
def ac24_1 : AC :=
 .seq (.reg []
 [⟨some 10, none, .bin .lss .scal, [.t 9, .t 8]⟩])
 (.seq (.cond (.t 10)
 .skip
 (.exit 0))
 (.seq (.block 1 (.seq (.reg []
 [⟨some 11, none, .idxA 6, [.t 7, .t 9]⟩,
 ⟨some 12, none, .load (some 6), [.t 11]⟩,
 ⟨some 6, none, .alloc [.int .i64 0, .int .i64 0, .int .i64 0, .bool false, .int .u32 0, .int .i64 0], []⟩,
 ⟨none, none, .store 6, [.t 6, .t 12]⟩])
 (.seq (.reg []
 [⟨some 13, none, .fldA 0, [.t 6]⟩,
 ⟨some 14, none, .load none, [.t 13]⟩])
 (.block 2 (.seq (.reg []
 [⟨some 16, none, .bin .eql .scal, [.t 14, .c (.int .i64 1)]⟩,
 ⟨some 15, none, .mov, [.t 16]⟩])
 (.cond (.t 15)
 (.reg []
 [⟨some 18, none, .load (some 1), [.t 2]⟩,
 ⟨some 19, none, .fldA 1, [.t 6]⟩,
 ⟨some 20, none, .fldA 0, [.t 19]⟩,
 ⟨some 21, none, .load none, [.t 20]⟩,
 ⟨some 22, none, .fldA 4, [.t 6]⟩,
 ⟨some 23, none, .load (some 2), [.t 22]⟩,
 ⟨some 24, none, .call 15, [.t 18, .t 21, .t 23]⟩,
 ⟨some 17, none, .mov, [.t 24]⟩,
 ⟨some 25, none, .ext 0, [.t 17]⟩,
 ⟨some 26, none, .ext 1, [.t 17]⟩,
 ⟨none, none, .store 1, [.t 2, .t 25]⟩])
 (.seq (.reg []
 [⟨some 28, none, .bin .eql .scal, [.t 14, .c (.int .i64 2)]⟩,
 ⟨some 27, none, .mov, [.t 28]⟩])
 (.cond (.t 27)
 (.reg []
 [⟨some 30, none, .load (some 1), [.t 2]⟩,
 ⟨some 31, none, .fldA 1, [.t 6]⟩,
 ⟨some 32, none, .load (some 3), [.t 31]⟩,
 ⟨some 33, none, .fldA 4, [.t 6]⟩,
 ⟨some 34, none, .load (some 2), [.t 33]⟩,
 ⟨some 35, none, .call 17, [.t 30, .t 32, .t 34]⟩,
 ⟨some 29, none, .mov, [.t 35]⟩,
 ⟨some 36, none, .ext 0, [.t 29]⟩,
 ⟨some 37, none, .ext 1, [.t 29]⟩,
 ⟨some 38, none, .ext 2, [.t 29]⟩,
 ⟨none, none, .store 1, [.t 2, .t 36]⟩])
 (.seq (.reg []
 [⟨some 40, none, .bin .eql .scal, [.t 14, .c (.int .i64 3)]⟩,
 ⟨some 39, none, .mov, [.t 40]⟩])
 (.cond (.t 39)
 (.reg []
 [⟨some 42, none, .load (some 1), [.t 2]⟩,
 ⟨some 43, none, .fldA 1, [.t 6]⟩,
 ⟨some 44, none, .fldA 0, [.t 43]⟩,
 ⟨some 45, none, .load none, [.t 44]⟩,
 ⟨some 46, none, .fldA 4, [.t 6]⟩,
 ⟨some 47, none, .load (some 2), [.t 46]⟩,
 ⟨some 48, none, .call 19, [.t 42, .t 45, .t 47]⟩,
 ⟨some 41, none, .mov, [.t 48]⟩,
 ⟨some 49, none, .ext 0, [.t 41]⟩,
 ⟨some 50, none, .ext 1, [.t 41]⟩,
 ⟨none, none, .store 1, [.t 2, .t 49]⟩])
 .skip))))))))))
 (.reg []
 [⟨some 51, none, .bin .add .scal, [.t 9, .c (.int .i64 1)]⟩,
 ⟨some 9, none, .mov, [.t 51]⟩])))
/-- "crossroads/redist.Run": 53 temporaries, 2 parameters, results some [.c 4 (some 1)]. -/
def ac24 : AC :=
 .seq (.reg []
 [⟨some 2, none, .box, [.t 0]⟩,
 ⟨some 4, none, .alloc [.nils], []⟩])
 (.seq (.seq (.reg []
 [⟨some 7, none, .mov, [.t 1]⟩,
 ⟨some 8, none, .lenL, [.t 7]⟩,
 ⟨some 9, none, .mov, [.c (.int .i64 0)]⟩])
 (.block 0 (.loop ac24_1)))
 (.seq (.reg []
 [⟨some 52, none, .load (some 1), [.t 2]⟩,
 ⟨none, none, .store 1, [.t 4, .t 52]⟩])
 .ret))
theorem i24 : fnInfo Try.prog 24 = some (53, [.c 4 (some 1)], ac24) := by kernel_rfl
def ac27_1 : AC :=
 .seq (.block 1 (.seq (.reg []
 [⟨some 12, none, .load (some 1), [.t 2]⟩,
 ⟨some 13, none, .mov, [.t 1]⟩,
 ⟨some 14, none, .call 51, [.t 12, .t 13]⟩,
 ⟨some 11, none, .mov, [.t 14]⟩,
 ⟨some 15, none, .ext 0, [.t 11]⟩,
 ⟨some 16, none, .ext 1, [.t 11]⟩,
 ⟨some 7, none, .alloc [.nils], []⟩,
 ⟨none, none, .store 1, [.t 7, .t 15]⟩,
 ⟨some 8, none, .mov, [.t 16]⟩])
 (.seq (.seq (.reg []
 [⟨some 17, none, .mov, [.t 8]⟩,
 ⟨some 18, none, .unNot, [.t 17]⟩,
 ⟨some 19, none, .mov, [.t 18]⟩,
 ⟨some 20, some (19, false), .mov, [.t 6]⟩,
 ⟨some 21, some (19, false), .bin .eql .scal, [.t 20, .c (.int .i64 64)]⟩,
 ⟨some 22, none, .pick, [.t 19, .c (.bool true), .t 21]⟩])
 (.cond (.t 22)
 (.seq (.reg []
 [⟨some 23, none, .load (some 1), [.t 7]⟩,
 ⟨some 24, none, .mov, [.t 6]⟩,
 ⟨none, none, .store 1, [.t 4, .t 23]⟩,
 ⟨some 5, none, .mov, [.t 24]⟩])
 .ret)
 .skip))
 (.reg []
 [⟨some 25, none, .load (some 1), [.t 7]⟩,
 ⟨none, none, .store 1, [.t 2, .t 25]⟩]))))
 (.reg []
 [⟨some 9, none, .mov, [.t 6]⟩,
 ⟨some 10, none, .bin .add .scal, [.t 9, .c (.int .i64 1)]⟩,
 ⟨some 6, none, .mov, [.t 10]⟩])
/-- "crossroads/redist.Sweep": 26 temporaries, 2 parameters, results some [.c 4 (some 1), .t 5]. -/
def ac27 : AC :=
 .seq (.reg []
 [⟨some 2, none, .box, [.t 0]⟩,
 ⟨some 4, none, .alloc [.nils], []⟩,
 ⟨some 5, none, .mov, [.c (.int .i64 0)]⟩])
 (.seq (.reg []
 [⟨some 6, none, .mov, [.c (.int .i64 1)]⟩])
 (.block 0 (.loop ac27_1)))
theorem i27 : fnInfo Try.prog 27 = some (26, [.c 4 (some 1), .t 5], ac27) := by kernel_rfl
def ac28_1 : AC :=
 .seq (.seq (.reg []
 [⟨some 50, none, .mov, [.t 11]⟩,
 ⟨some 51, none, .fldA 0, [.t 2]⟩,
 ⟨some 52, none, .load none, [.t 51]⟩,
 ⟨some 53, none, .fldA 0, [.t 9]⟩,
 ⟨some 54, none, .load none, [.t 53]⟩,
 ⟨some 55, none, .idxA 3, [.t 52, .t 54]⟩,
 ⟨some 56, none, .fldA 2, [.t 55]⟩,
 ⟨some 57, none, .load none, [.t 56]⟩,
 ⟨some 58, none, .lenL, [.t 57]⟩,
 ⟨some 59, none, .bin .lss .scal, [.t 50, .t 58]⟩])
 (.cond (.t 59)
 .skip
 (.exit 4)))
 (.seq (.block 5 (.reg []
 [⟨some 62, none, .mov, [.t 10]⟩,
 ⟨some 63, none, .fldA 0, [.t 2]⟩,
 ⟨some 64, none, .load none, [.t 63]⟩,
 ⟨some 65, none, .fldA 0, [.t 9]⟩,
 ⟨some 66, none, .load none, [.t 65]⟩,
 ⟨some 67, none, .idxA 3, [.t 64, .t 66]⟩,
 ⟨some 68, none, .fldA 2, [.t 67]⟩,
 ⟨some 69, none, .load none, [.t 68]⟩,
 ⟨some 70, none, .mov, [.t 11]⟩,
 ⟨some 71, none, .idxA 4, [.t 69, .t 70]⟩,
 ⟨some 72, none, .fldA 0, [.t 71]⟩,
 ⟨some 73, none, .load (some 2), [.t 72]⟩,
 ⟨some 74, none, .bslice 2 29, [.t 73]⟩,
 ⟨some 75, none, .append 2 29 16, [.t 62, .t 74]⟩,
 ⟨some 10, none, .mov, [.t 75]⟩]))
 (.reg []
 [⟨some 60, none, .mov, [.t 11]⟩,
 ⟨some 61, none, .bin .add .scal, [.t 60, .c (.int .i64 1)]⟩,
 ⟨some 11, none, .mov, [.t 61]⟩]))
def ac28_2 : AC :=
 .seq (.seq (.reg []
 [⟨some 76, none, .mov, [.t 12]⟩,
 ⟨some 77, none, .mov, [.t 10]⟩,
 ⟨some 78, none, .lenL, [.t 77]⟩,
 ⟨some 79, none, .bin .lss .scal, [.t 76, .t 78]⟩])
 (.cond (.t 79)
 .skip
 (.exit 6)))
 (.seq (.block 7 (.seq (.reg [[], [], [], [], [2, 3], [4], [0, 1, 5], [6], [7], [7], [7], [], [11, 8, 6, 0, 1, 2, 3, 4, 5, 6, 7, 8, 11], [9, 12, 0, 1, 2, 3, 4, 5, 6, 7, 8, 9, 11, 12], [10, 13, 0, 1, 2, 3, 4, 5, 6, 7, 8, 9, 10, 11, 12, 13]]
 [⟨some 83, none, .load (some 1), [.t 2]⟩,
 ⟨some 84, none, .load (some 3), [.t 9]⟩,
 ⟨some 85, none, .mov, [.t 10]⟩,
 ⟨some 86, none, .mov, [.t 12]⟩,
 ⟨some 87, none, .idxA 2, [.t 85, .t 86]⟩,
 ⟨some 88, none, .load (some 2), [.t 87]⟩,
 ⟨some 89, none, .call 18, [.t 83, .t 84, .t 88]⟩,
 ⟨some 82, none, .mov, [.t 89]⟩,
 ⟨some 90, none, .ext 0, [.t 82]⟩,
 ⟨some 91, none, .ext 1, [.t 82]⟩,
 ⟨some 92, none, .ext 2, [.t 82]⟩,
 ⟨some 13, none, .alloc [.nils], []⟩,
 ⟨none, none, .store 1, [.t 13, .t 90]⟩,
 ⟨some 14, none, .mov, [.t 91]⟩,
 ⟨some 15, none, .mov, [.t 92]⟩])
 (.seq (.reg []
 [⟨some 93, none, .load (some 1), [.t 13]⟩,
 ⟨none, none, .store 1, [.t 2, .t 93]⟩])
 (.reg []
 [⟨some 94, none, .mov, [.t 7]⟩,
 ⟨some 95, none, .mov, [.t 94]⟩,
 ⟨some 96, some (95, false), .mov, [.t 14]⟩,
 ⟨some 97, none, .pick, [.t 95, .c (.bool true), .t 96]⟩,
 ⟨some 7, none, .mov, [.t 97]⟩]))))
 (.reg []
 [⟨some 80, none, .mov, [.t 12]⟩,
 ⟨some 81, none, .bin .add .scal, [.t 80, .c (.int .i64 1)]⟩,
 ⟨some 12, none, .mov, [.t 81]⟩]))
def ac28_3 : AC :=
 .seq (.seq (.reg []
 [⟨some 20, none, .mov, [.t 8]⟩,
 ⟨some 21, none, .mov, [.t 1]⟩,
 ⟨some 22, none, .lenL, [.t 21]⟩,
 ⟨some 23, none, .bin .lss .scal, [.t 20, .t 22]⟩])
 (.cond (.t 23)
 .skip
 (.exit 2)))
 (.seq (.block 3 (.seq (.reg []
 [⟨some 26, none, .mov, [.t 1]⟩,
 ⟨some 27, none, .mov, [.t 8]⟩,
 ⟨some 28, none, .idxA 3, [.t 26, .t 27]⟩,
 ⟨some 29, none, .load (some 3), [.t 28]⟩,
 ⟨some 9, none, .alloc [.int .i64 0, .int .i64 0, .bool false], []⟩,
 ⟨none, none, .store 3, [.t 9, .t 29]⟩])
 (.seq (.seq (.reg []
 [⟨some 30, none, .fldA 0, [.t 9]⟩,
 ⟨some 31, none, .load none, [.t 30]⟩,
 ⟨some 32, none, .bin .lss .scal, [.t 31, .c (.int .i64 0)]⟩,
 ⟨some 33, none, .mov, [.t 32]⟩,
 ⟨some 34, some (33, false), .fldA 0, [.t 9]⟩,
 ⟨some 35, some (33, false), .load none, [.t 34]⟩,
 ⟨some 36, some (33, false), .fldA 0, [.t 2]⟩,
 ⟨some 37, some (33, false), .load none, [.t 36]⟩,
 ⟨some 38, some (33, false), .lenL, [.t 37]⟩,
 ⟨some 39, some (33, false), .bin .geq .scal, [.t 35, .t 38]⟩,
 ⟨some 40, none, .pick, [.t 33, .c (.bool true), .t 39]⟩])
 (.cond (.t 40)
 (.exit 3)
 .skip))
 (.seq (.reg []
 [⟨some 41, none, .bslice 2 29, []⟩,
 ⟨some 42, none, .fldA 0, [.t 2]⟩,
 ⟨some 43, none, .load none, [.t 42]⟩,
 ⟨some 44, none, .fldA 0, [.t 9]⟩,
 ⟨some 45, none, .load none, [.t 44]⟩,
 ⟨some 46, none, .idxA 3, [.t 43, .t 45]⟩,
 ⟨some 47, none, .fldA 1, [.t 46]⟩,
 ⟨some 48, none, .load none, [.t 47]⟩,
 ⟨some 49, none, .append 2 29 16, [.t 41, .t 48]⟩,
 ⟨some 10, none, .mov, [.t 49]⟩])
 (.seq (.seq (.reg []
 [⟨some 11, none, .mov, [.c (.int .i64 0)]⟩])
 (.block 4 (.loop ac28_1)))
 (.seq (.reg []
 [⟨some 12, none, .mov, [.c (.int .i64 0)]⟩])
 (.block 6 (.loop ac28_2))))))))
 (.reg []
 [⟨some 24, none, .mov, [.t 8]⟩,
 ⟨some 25, none, .bin .add .scal, [.t 24, .c (.int .i64 1)]⟩,
 ⟨some 8, none, .mov, [.t 25]⟩]))
def ac28_4 : AC :=
 .seq (.seq (.reg []
 [⟨some 16, none, .mov, [.t 6]⟩,
 ⟨some 17, none, .bin .leq .scal, [.t 16, .c (.int .i64 64)]⟩])
 (.cond (.t 17)
 .skip
 (.exit 0)))
 (.seq (.block 1 (.seq (.reg []
 [⟨some 7, none, .mov, [.c (.bool false)]⟩])
 (.seq (.seq (.reg []
 [⟨some 8, none, .mov, [.c (.int .i64 0)]⟩])
 (.block 2 (.loop ac28_3)))
 (.seq (.reg []
 [⟨some 98, none, .mov, [.t 7]⟩,
 ⟨some 99, none, .unNot, [.t 98]⟩,
 ⟨some 100, none, .mov, [.t 99]⟩,
 ⟨some 101, some (100, false), .mov, [.t 6]⟩,
 ⟨some 102, some (100, false), .bin .eql .scal, [.t 101, .c (.int .i64 64)]⟩,
 ⟨some 103, none, .pick, [.t 100, .c (.bool true), .t 102]⟩])
 (.cond (.t 103)
 (.seq (.reg []
 [⟨some 104, none, .load (some 1), [.t 2]⟩,
 ⟨some 105, none, .mov, [.t 6]⟩,
 ⟨none, none, .store 1, [.t 4, .t 104]⟩,
 ⟨some 5, none, .mov, [.t 105]⟩])
 .ret)
 .skip)))))
 (.reg []
 [⟨some 18, none, .mov, [.t 6]⟩,
 ⟨some 19, none, .bin .add .scal, [.t 18, .c (.int .i64 1)]⟩,
 ⟨some 6, none, .mov, [.t 19]⟩]))
/-- "crossroads/crossroadsref28.Sweep": 107 temporaries, 2 parameters, results some [.c 4 (some 1), .t 5]. -/
def ac28 : AC :=
 .seq (.reg []
 [⟨some 2, none, .box, [.t 0]⟩,
 ⟨some 4, none, .alloc [.nils], []⟩,
 ⟨some 5, none, .mov, [.c (.int .i64 0)]⟩])
 (.seq (.seq (.reg []
 [⟨some 6, none, .mov, [.c (.int .i64 1)]⟩])
 (.block 0 (.loop ac28_4)))
 (.seq (.reg []
 [⟨some 106, none, .load (some 1), [.t 2]⟩,
 ⟨none, none, .store 1, [.t 4, .t 106]⟩,
 ⟨some 5, none, .mov, [.c (.int .i64 64)]⟩])
 .ret))
theorem i28 : fnInfo Try.prog 28 = some (107, [.c 4 (some 1), .t 5], ac28) := by kernel_rfl
/-- "(crossroads/redist.World).is": 14 temporaries, 2 parameters, results some [.t 4]. -/
def ac30 : AC :=
 .seq (.reg []
 [⟨some 2, none, .box, [.t 0]⟩,
 ⟨some 4, none, .mov, [.c (.bool false)]⟩])
 (.seq (.reg []
 [⟨some 5, none, .mov, [.t 1]⟩,
 ⟨some 6, none, .bin .geq .scal, [.t 5, .c (.int .i64 0)]⟩,
 ⟨some 7, none, .mov, [.t 6]⟩,
 ⟨some 8, some (7, true), .mov, [.t 1]⟩,
 ⟨some 9, some (7, true), .fldA 0, [.t 2]⟩,
 ⟨some 10, some (7, true), .load none, [.t 9]⟩,
 ⟨some 11, some (7, true), .lenL, [.t 10]⟩,
 ⟨some 12, some (7, true), .bin .lss .scal, [.t 8, .t 11]⟩,
 ⟨some 13, none, .pick, [.t 7, .t 12, .c (.bool false)]⟩,
 ⟨some 4, none, .mov, [.t 13]⟩])
 .ret)
theorem i30 : fnInfo Try.prog 30 = some (14, [.t 4], ac30) := by kernel_rfl
/-- "crossroads/addr.May": 15 temporaries, 1 parameters, results some [.t 2]. -/
def ac31 : AC :=
 .seq (.reg []
 [⟨some 1, none, .box, [.t 0]⟩,
 ⟨some 2, none, .mov, [.c (.bool false)]⟩])
 (.seq (.reg [[], [0], [1], [2, 2], [3], [4, 3], [3], [6, 3], [7, 3, 3], [5, 8, 3], [9, 3], [3, 10], [11, 8, 0, 1, 2, 3, 4, 5, 6, 7, 8, 9, 10, 11]]
 [⟨some 3, none, .fldA 1, [.t 1]⟩,
 ⟨some 4, none, .load none, [.t 3]⟩,
 ⟨some 5, none, .call 52, [.t 4]⟩,
 ⟨some 6, none, .mov, [.t 5]⟩,
 ⟨some 7, some (6, true), .fldA 0, [.t 1]⟩,
 ⟨some 8, some (6, true), .load none, [.t 7]⟩,
 ⟨some 9, some (6, true), .fldA 1, [.t 1]⟩,
 ⟨some 10, some (6, true), .load none, [.t 9]⟩,
 ⟨some 11, some (6, true), .call 53, [.t 10]⟩,
 ⟨some 12, some (6, true), .bin .andNot .scal, [.t 8, .t 11]⟩,
 ⟨some 13, some (6, true), .bin .eql .scal, [.t 12, .c (.int .u32 0)]⟩,
 ⟨some 14, none, .pick, [.t 6, .t 13, .c (.bool false)]⟩,
 ⟨some 2, none, .mov, [.t 14]⟩])
 .ret)
theorem i31 : fnInfo Try.prog 31 = some (15, [.t 2], ac31) := by kernel_rfl
/-- "(crossroads/redist.Domain).without": 25 temporaries, 2 parameters, results some [.c 4 (some 3), .t 5]. -/
def ac32 : AC :=
 .seq (.reg []
 [⟨some 2, none, .box, [.t 0]⟩,
 ⟨some 3, none, .box, [.t 1]⟩,
 ⟨some 4, none, .alloc [.int .u32 0, .nils, .nils], []⟩,
 ⟨some 5, none, .mov, [.c (.bool false)]⟩])
 (.seq (.reg []
 [⟨some 9, none, .load (some 3), [.t 2]⟩,
 ⟨some 10, none, .load (some 2), [.t 3]⟩,
 ⟨some 11, none, .call 43, [.t 9, .t 10]⟩,
 ⟨some 8, none, .mov, [.t 11]⟩,
 ⟨some 12, none, .ext 0, [.t 8]⟩,
 ⟨some 13, none, .ext 1, [.t 8]⟩,
 ⟨some 6, none, .mov, [.t 12]⟩,
 ⟨some 7, none, .mov, [.t 13]⟩])
 (.seq (.seq (.reg []
 [⟨some 14, none, .mov, [.t 7]⟩])
 (.cond (.t 14)
 (.reg []
 [⟨some 15, none, .fldA 2, [.t 2]⟩,
 ⟨some 16, none, .load none, [.t 15]⟩,
 ⟨some 17, none, .call 44, [.t 16]⟩,
 ⟨some 18, none, .mov, [.t 6]⟩,
 ⟨some 19, none, .mov, [.t 6]⟩,
 ⟨some 20, none, .bin .add .scal, [.t 19, .c (.int .i64 1)]⟩,
 ⟨some 21, none, .call 54, [.t 17, .t 18, .t 20]⟩,
 ⟨some 22, none, .fldA 2, [.t 2]⟩,
 ⟨none, none, .store 1, [.t 22, .t 21]⟩])
 .skip))
 (.seq (.reg []
 [⟨some 23, none, .load (some 3), [.t 2]⟩,
 ⟨some 24, none, .mov, [.t 7]⟩,
 ⟨none, none, .store 3, [.t 4, .t 23]⟩,
 ⟨some 5, none, .mov, [.t 24]⟩])
 .ret)))
theorem i32 : fnInfo Try.prog 32 = some (25, [.c 4 (some 3), .t 5], ac32) := by kernel_rfl
/-- "(crossroads/redist.Domain).own": 12 temporaries, 2 parameters, results some [.t 4, .t 5]. -/
def ac33 : AC :=
 .seq (.reg []
 [⟨some 2, none, .box, [.t 0]⟩,
 ⟨some 3, none, .box, [.t 1]⟩,
 ⟨some 4, none, .mov, [.c (.int .i64 0)]⟩,
 ⟨some 5, none, .mov, [.c (.bool false)]⟩])
 (.seq (.reg []
 [⟨some 6, none, .fldA 1, [.t 2]⟩,
 ⟨some 7, none, .load none, [.t 6]⟩,
 ⟨some 8, none, .load (some 2), [.t 3]⟩,
 ⟨some 9, none, .call 55, [.t 7, .t 8, .f 56]⟩,
 ⟨some 10, none, .ext 0, [.t 9]⟩,
 ⟨some 11, none, .ext 1, [.t 9]⟩,
 ⟨some 4, none, .mov, [.t 10]⟩,
 ⟨some 5, none, .mov, [.t 11]⟩])
 .ret)
theorem i33 : fnInfo Try.prog 33 = some (12, [.t 4, .t 5], ac33) := by kernel_rfl
/-- "slices.Insert[[]crossroads/api.Prefix,crossroads/api.Prefix]": 95 temporaries, 3 parameters, results some [.t 6]. -/
def ac34 : AC :=
 .seq (.reg []
 [⟨some 6, none, .mov, [.c .nils]⟩])
 (.seq (.reg []
 [⟨some 10, none, .mov, [.t 0]⟩,
 ⟨some 11, none, .mov, [.t 1]⟩,
 ⟨some 12, none, .slice 2 true false, [.t 10, .t 11]⟩])
 (.seq (.reg []
 [⟨some 13, none, .mov, [.t 2]⟩,
 ⟨some 14, none, .lenL, [.t 13]⟩,
 ⟨some 7, none, .mov, [.t 14]⟩])
 (.seq (.seq (.reg []
 [⟨some 15, none, .mov, [.t 7]⟩,
 ⟨some 16, none, .bin .eql .scal, [.t 15, .c (.int .i64 0)]⟩])
 (.cond (.t 16)
 (.seq (.reg []
 [⟨some 17, none, .mov, [.t 0]⟩,
 ⟨some 6, none, .mov, [.t 17]⟩])
 .ret)
 .skip))
 (.seq (.reg []
 [⟨some 18, none, .mov, [.t 0]⟩,
 ⟨some 19, none, .lenL, [.t 18]⟩,
 ⟨some 8, none, .mov, [.t 19]⟩])
 (.seq (.seq (.reg []
 [⟨some 20, none, .mov, [.t 1]⟩,
 ⟨some 21, none, .mov, [.t 8]⟩,
 ⟨some 22, none, .bin .eql .scal, [.t 20, .t 21]⟩])
 (.cond (.t 22)
 (.seq (.reg []
 [⟨some 23, none, .mov, [.t 0]⟩,
 ⟨some 24, none, .mov, [.t 2]⟩,
 ⟨some 25, none, .append 2 29 16, [.t 23, .t 24]⟩,
 ⟨some 6, none, .mov, [.t 25]⟩])
 .ret)
 .skip))
 (.seq (.seq (.reg []
 [⟨some 26, none, .mov, [.t 8]⟩,
 ⟨some 27, none, .mov, [.t 7]⟩,
 ⟨some 28, none, .bin .add .scal, [.t 26, .t 27]⟩,
 ⟨some 29, none, .mov, [.t 0]⟩,
 ⟨some 30, none, .capL, [.t 29]⟩,
 ⟨some 31, none, .bin .gtr .scal, [.t 28, .t 30]⟩])
 (.cond (.t 31)
 (.seq (.reg []
 [⟨some 32, none, .mov, [.t 0]⟩,
 ⟨some 33, none, .mov, [.t 1]⟩,
 ⟨some 34, none, .slice 2 false true, [.t 32, .t 33]⟩,
 ⟨some 35, none, .mov, [.t 8]⟩,
 ⟨some 36, none, .mov, [.t 7]⟩,
 ⟨some 37, none, .bin .add .scal, [.t 35, .t 36]⟩,
 ⟨some 38, none, .mov, [.t 1]⟩,
 ⟨some 39, none, .bin .sub .scal, [.t 37, .t 38]⟩,
 ⟨some 40, none, .appendZ 2 29 16 [.int .u32 0, .int .i64 0], [.t 34, .t 39]⟩,
 ⟨some 9, none, .mov, [.t 40]⟩])
 (.seq (.reg []
 [⟨some 41, none, .mov, [.t 9]⟩,
 ⟨some 42, none, .mov, [.t 1]⟩,
 ⟨some 43, none, .slice 2 true false, [.t 41, .t 42]⟩,
 ⟨some 44, none, .mov, [.t 2]⟩,
 ⟨some 45, none, .copy 2, [.t 43, .t 44]⟩])
 (.seq (.reg [[], [], [], [1, 2], [0, 3], [], [], [5, 6], [4, 7]]
 [⟨some 46, none, .mov, [.t 9]⟩,
 ⟨some 47, none, .mov, [.t 1]⟩,
 ⟨some 48, none, .mov, [.t 7]⟩,
 ⟨some 49, none, .bin .add .scal, [.t 47, .t 48]⟩,
 ⟨some 50, none, .slice 2 true false, [.t 46, .t 49]⟩,
 ⟨some 51, none, .mov, [.t 0]⟩,
 ⟨some 52, none, .mov, [.t 1]⟩,
 ⟨some 53, none, .slice 2 true false, [.t 51, .t 52]⟩,
 ⟨some 54, none, .copy 2, [.t 50, .t 53]⟩])
 (.seq (.reg []
 [⟨some 55, none, .mov, [.t 9]⟩,
 ⟨some 6, none, .mov, [.t 55]⟩])
 .ret))))
 .skip))
 (.seq (.reg []
 [⟨some 56, none, .mov, [.t 0]⟩,
 ⟨some 57, none, .mov, [.t 8]⟩,
 ⟨some 58, none, .mov, [.t 7]⟩,
 ⟨some 59, none, .bin .add .scal, [.t 57, .t 58]⟩,
 ⟨some 60, none, .slice 2 false true, [.t 56, .t 59]⟩,
 ⟨some 0, none, .mov, [.t 60]⟩])
 (.seq (.seq (.reg []
 [⟨some 61, none, .mov, [.t 2]⟩,
 ⟨some 62, none, .mov, [.t 0]⟩,
 ⟨some 63, none, .mov, [.t 1]⟩,
 ⟨some 64, none, .mov, [.t 7]⟩,
 ⟨some 65, none, .bin .add .scal, [.t 63, .t 64]⟩,
 ⟨some 66, none, .slice 2 true false, [.t 62, .t 65]⟩,
 ⟨some 67, none, .call 57, [.t 61, .t 66]⟩,
 ⟨some 68, none, .unNot, [.t 67]⟩])
 (.cond (.t 68)
 (.seq (.reg [[], [], [], [1, 2], [0, 3], [], [], [5, 6], [4, 7]]
 [⟨some 69, none, .mov, [.t 0]⟩,
 ⟨some 70, none, .mov, [.t 1]⟩,
 ⟨some 71, none, .mov, [.t 7]⟩,
 ⟨some 72, none, .bin .add .scal, [.t 70, .t 71]⟩,
 ⟨some 73, none, .slice 2 true false, [.t 69, .t 72]⟩,
 ⟨some 74, none, .mov, [.t 0]⟩,
 ⟨some 75, none, .mov, [.t 1]⟩,
 ⟨some 76, none, .slice 2 true false, [.t 74, .t 75]⟩,
 ⟨some 77, none, .copy 2, [.t 73, .t 76]⟩])
 (.seq (.reg []
 [⟨some 78, none, .mov, [.t 0]⟩,
 ⟨some 79, none, .mov, [.t 1]⟩,
 ⟨some 80, none, .slice 2 true false, [.t 78, .t 79]⟩,
 ⟨some 81, none, .mov, [.t 2]⟩,
 ⟨some 82, none, .copy 2, [.t 80, .t 81]⟩])
 (.seq (.reg []
 [⟨some 83, none, .mov, [.t 0]⟩,
 ⟨some 6, none, .mov, [.t 83]⟩])
 .ret)))
 .skip))
 (.seq (.reg []
 [⟨some 84, none, .mov, [.t 0]⟩,
 ⟨some 85, none, .mov, [.t 8]⟩,
 ⟨some 86, none, .slice 2 true false, [.t 84, .t 85]⟩,
 ⟨some 87, none, .mov, [.t 2]⟩,
 ⟨some 88, none, .copy 2, [.t 86, .t 87]⟩])
 (.seq (.reg []
 [⟨some 89, none, .mov, [.t 0]⟩,
 ⟨some 90, none, .mov, [.t 1]⟩,
 ⟨some 91, none, .slice 2 true false, [.t 89, .t 90]⟩,
 ⟨some 92, none, .mov, [.t 7]⟩,
 ⟨some 93, none, .call 58, [.t 91, .t 92]⟩])
 (.seq (.reg []
 [⟨some 94, none, .mov, [.t 0]⟩,
 ⟨some 6, none, .mov, [.t 94]⟩])
 .ret)))))))))))
theorem i34 : fnInfo Try.prog 34 = some (95, [.t 6], ac34) := by kernel_rfl
/-- "slices.Clone[[]crossroads/api.Prefix,crossroads/api.Prefix]": 8 temporaries, 1 parameters, results some [.t 2]. -/
def ac35 : AC :=
 .seq (.reg []
 [⟨some 2, none, .mov, [.c .nils]⟩])
 (.seq (.seq (.reg []
 [⟨some 3, none, .mov, [.t 0]⟩,
 ⟨some 4, none, .bin .eql .sl, [.t 3, .c .nils]⟩])
 (.cond (.t 4)
 (.seq (.reg []
 [⟨some 2, none, .mov, [.c .nils]⟩])
 .ret)
 .skip))
 (.seq (.reg []
 [⟨some 5, none, .bslice 2 29, []⟩,
 ⟨some 6, none, .mov, [.t 0]⟩,
 ⟨some 7, none, .append 2 29 16, [.t 5, .t 6]⟩,
 ⟨some 2, none, .mov, [.t 7]⟩])
 .ret))
theorem i35 : fnInfo Try.prog 35 = some (8, [.t 2], ac35) := by kernel_rfl
/-- "(crossroads/redist.World).with": 17 temporaries, 3 parameters, results some [.c 6 (some 1)]. -/
def ac36 : AC :=
 .seq (.reg []
 [⟨some 3, none, .box, [.t 0]⟩,
 ⟨some 5, none, .box, [.t 2]⟩,
 ⟨some 6, none, .alloc [.nils], []⟩])
 (.seq (.reg []
 [⟨some 7, none, .fldA 0, [.t 3]⟩,
 ⟨some 8, none, .load none, [.t 7]⟩,
 ⟨some 9, none, .call 59, [.t 8]⟩,
 ⟨some 10, none, .fldA 0, [.t 3]⟩,
 ⟨none, none, .store 1, [.t 10, .t 9]⟩])
 (.seq (.reg []
 [⟨some 11, none, .fldA 0, [.t 3]⟩,
 ⟨some 12, none, .load none, [.t 11]⟩,
 ⟨some 13, none, .mov, [.t 1]⟩,
 ⟨some 14, none, .load (some 3), [.t 5]⟩,
 ⟨some 15, none, .idxA 3, [.t 12, .t 13]⟩,
 ⟨none, none, .store 3, [.t 15, .t 14]⟩])
 (.seq (.reg []
 [⟨some 16, none, .load (some 1), [.t 3]⟩,
 ⟨none, none, .store 1, [.t 6, .t 16]⟩])
 .ret)))
theorem i36 : fnInfo Try.prog 36 = some (17, [.c 6 (some 1)], ac36) := by kernel_rfl
def ac37_1 : AC :=
 .seq (.seq (.reg []
 [⟨some 14, none, .mov, [.t 3]⟩,
 ⟨some 15, none, .bin .lss .scal, [.t 14, .c (.int .i64 32)]⟩])
 (.cond (.t 15)
 .skip
 (.exit 0)))
 (.seq (.block 1 (.seq (.reg []
 [⟨some 18, none, .fldA 0, [.t 1]⟩,
 ⟨some 19, none, .load none, [.t 18]⟩,
 ⟨some 20, none, .mov, [.t 3]⟩,
 ⟨some 21, none, .call 60, [.t 19, .t 20]⟩,
 ⟨some 22, none, .bin .eql .scal, [.t 21, .c (.int .i64 1)]⟩])
 (.cond (.t 22)
 (.seq (.reg []
 [⟨some 2, none, .mov, [.c (.bool false)]⟩])
 .ret)
 .skip)))
 (.reg []
 [⟨some 16, none, .mov, [.t 3]⟩,
 ⟨some 17, none, .bin .add .scal, [.t 16, .c (.int .i64 1)]⟩,
 ⟨some 3, none, .mov, [.t 17]⟩]))
/-- "crossroads/crossroadsref03.May": 23 temporaries, 1 parameters, results some [.t 2]. -/
def ac37 : AC :=
 .seq (.reg []
 [⟨some 1, none, .box, [.t 0]⟩,
 ⟨some 2, none, .mov, [.c (.bool false)]⟩])
 (.seq (.seq (.reg []
 [⟨some 4, none, .fldA 1, [.t 1]⟩,
 ⟨some 5, none, .load none, [.t 4]⟩,
 ⟨some 6, none, .bin .lss .scal, [.t 5, .c (.int .i64 0)]⟩,
 ⟨some 7, none, .mov, [.t 6]⟩,
 ⟨some 8, some (7, false), .fldA 1, [.t 1]⟩,
 ⟨some 9, some (7, false), .load none, [.t 8]⟩,
 ⟨some 10, some (7, false), .bin .gtr .scal, [.t 9, .c (.int .i64 32)]⟩,
 ⟨some 11, none, .pick, [.t 7, .c (.bool true), .t 10]⟩])
 (.cond (.t 11)
 (.seq (.reg []
 [⟨some 2, none, .mov, [.c (.bool false)]⟩])
 .ret)
 .skip))
 (.seq (.seq (.reg []
 [⟨some 12, none, .fldA 1, [.t 1]⟩,
 ⟨some 13, none, .load none, [.t 12]⟩,
 ⟨some 3, none, .mov, [.t 13]⟩])
 (.block 0 (.loop ac37_1)))
 (.seq (.reg []
 [⟨some 2, none, .mov, [.c (.bool true)]⟩])
 .ret)))
theorem i37 : fnInfo Try.prog 37 = some (23, [.t 2], ac37) := by kernel_rfl
def ac38_1 : AC :=
 .seq (.seq (.reg []
 [⟨some 6, none, .mov, [.t 5]⟩,
 ⟨some 7, none, .fldA 1, [.t 2]⟩,
 ⟨some 8, none, .load none, [.t 7]⟩,
 ⟨some 9, none, .lenL, [.t 8]⟩,
 ⟨some 10, none, .bin .lss .scal, [.t 6, .t 9]⟩])
 (.cond (.t 10)
 .skip
 (.exit 0)))
 (.seq (.block 1 (.seq (.reg [[], [0], [], [1, 2], [3], [], [4, 5]]
 [⟨some 13, none, .fldA 1, [.t 2]⟩,
 ⟨some 14, none, .load none, [.t 13]⟩,
 ⟨some 15, none, .mov, [.t 5]⟩,
 ⟨some 16, none, .idxA 2, [.t 14, .t 15]⟩,
 ⟨some 17, none, .load (some 2), [.t 16]⟩,
 ⟨some 18, none, .load (some 2), [.t 3]⟩,
 ⟨some 19, none, .bin .eql (.flat [.int .u32, .int .i64]), [.t 17, .t 18]⟩])
 (.cond (.t 19)
 (.seq (.reg []
 [⟨some 4, none, .mov, [.c (.bool true)]⟩])
 .ret)
 .skip)))
 (.reg []
 [⟨some 11, none, .mov, [.t 5]⟩,
 ⟨some 12, none, .bin .add .scal, [.t 11, .c (.int .i64 1)]⟩,
 ⟨some 5, none, .mov, [.t 12]⟩]))
/-- "crossroads/crossroadsref28.owns": 20 temporaries, 2 parameters, results some [.t 4]. -/
def ac38 : AC :=
 .seq (.reg []
 [⟨some 2, none, .box, [.t 0]⟩,
 ⟨some 3, none, .box, [.t 1]⟩,
 ⟨some 4, none, .mov, [.c (.bool false)]⟩])
 (.seq (.seq (.reg []
 [⟨some 5, none, .mov, [.c (.int .i64 0)]⟩])
 (.block 0 (.loop ac38_1)))
 (.seq (.reg []
 [⟨some 4, none, .mov, [.c (.bool false)]⟩])
 .ret))
theorem i38 : fnInfo Try.prog 38 = some (20, [.t 4], ac38) := by kernel_rfl
/-- "crossroads/crossroadsref03.Less": 24 temporaries, 2 parameters, results some [.t 4]. -/
def ac39 : AC :=
 .seq (.reg []
 [⟨some 2, none, .box, [.t 0]⟩,
 ⟨some 3, none, .box, [.t 1]⟩,
 ⟨some 4, none, .mov, [.c (.bool false)]⟩])
 (.seq (.reg []
 [⟨some 5, none, .fldA 0, [.t 2]⟩,
 ⟨some 6, none, .load none, [.t 5]⟩,
 ⟨some 7, none, .fldA 0, [.t 3]⟩,
 ⟨some 8, none, .load none, [.t 7]⟩,
 ⟨some 9, none, .bin .lss .scal, [.t 6, .t 8]⟩,
 ⟨some 10, none, .mov, [.t 9]⟩,
 ⟨some 11, some (10, false), .fldA 0, [.t 2]⟩,
 ⟨some 12, some (10, false), .load none, [.t 11]⟩,
 ⟨some 13, some (10, false), .fldA 0, [.t 3]⟩,
 ⟨some 14, some (10, false), .load none, [.t 13]⟩,
 ⟨some 15, some (10, false), .bin .eql .scal, [.t 12, .t 14]⟩,
 ⟨some 16, some (10, false), .mov, [.t 15]⟩,
 ⟨some 17, some (16, true), .fldA 1, [.t 2]⟩,
 ⟨some 18, some (16, true), .load none, [.t 17]⟩,
 ⟨some 19, some (16, true), .fldA 1, [.t 3]⟩,
 ⟨some 20, some (16, true), .load none, [.t 19]⟩,
 ⟨some 21, some (16, true), .bin .lss .scal, [.t 18, .t 20]⟩,
 ⟨some 22, some (10, false), .pick, [.t 16, .t 21, .c (.bool false)]⟩,
 ⟨some 23, none, .pick, [.t 10, .c (.bool true), .t 22]⟩,
 ⟨some 4, none, .mov, [.t 23]⟩])
 .ret)
theorem i39 : fnInfo Try.prog 39 = some (24, [.t 4], ac39) := by kernel_rfl
def ac40_1 : AC :=
 .seq (.seq (.reg []
 [⟨some 8, none, .mov, [.t 6]⟩,
 ⟨some 9, none, .mov, [.t 0]⟩,
 ⟨some 10, none, .lenL, [.t 9]⟩,
 ⟨some 11, none, .bin .lss .scal, [.t 8, .t 10]⟩])
 (.cond (.t 11)
 .skip
 (.exit 0)))
 (.seq (.block 1 (.seq (.reg [[], [], [0, 1], [2], [3], [], [4, 5]]
 [⟨some 14, none, .mov, [.t 0]⟩,
 ⟨some 15, none, .mov, [.t 6]⟩,
 ⟨some 16, none, .idxA 4, [.t 14, .t 15]⟩,
 ⟨some 17, none, .fldA 0, [.t 16]⟩,
 ⟨some 18, none, .load (some 2), [.t 17]⟩,
 ⟨some 19, none, .load (some 2), [.t 3]⟩,
 ⟨some 20, none, .bin .neq (.flat [.int .u32, .int .i64]), [.t 18, .t 19]⟩])
 (.cond (.t 20)
 (.reg []
 [⟨some 21, none, .mov, [.t 5]⟩,
 ⟨some 22, none, .mov, [.t 0]⟩,
 ⟨some 23, none, .mov, [.t 6]⟩,
 ⟨some 24, none, .idxA 4, [.t 22, .t 23]⟩,
 ⟨some 25, none, .load (some 4), [.t 24]⟩,
 ⟨some 26, none, .bslice 4 70, [.t 25]⟩,
 ⟨some 27, none, .append 4 70 24, [.t 21, .t 26]⟩,
 ⟨some 5, none, .mov, [.t 27]⟩])
 .skip)))
 (.reg []
 [⟨some 12, none, .mov, [.t 6]⟩,
 ⟨some 13, none, .bin .add .scal, [.t 12, .c (.int .i64 1)]⟩,
 ⟨some 6, none, .mov, [.t 13]⟩]))
/-- "crossroads/crossroadsref28.without": 29 temporaries, 2 parameters, results some [.t 4]. -/
def ac40 : AC :=
 .seq (.reg []
 [⟨some 3, none, .box, [.t 1]⟩,
 ⟨some 4, none, .mov, [.c .nils]⟩])
 (.seq (.reg []
 [⟨some 7, none, .bslice 4 70, []⟩,
 ⟨some 5, none, .mov, [.t 7]⟩])
 (.seq (.seq (.reg []
 [⟨some 6, none, .mov, [.c (.int .i64 0)]⟩])
 (.block 0 (.loop ac40_1)))
 (.seq (.reg []
 [⟨some 28, none, .mov, [.t 5]⟩,
 ⟨some 4, none, .mov, [.t 28]⟩])
 .ret)))
theorem i40 : fnInfo Try.prog 40 = some (29, [.t 4], ac40) := by kernel_rfl
/-- "crossroads/crossroadsref28.with": 18 temporaries, 3 parameters, results some [.c 6 (some 1)]. -/
def ac41 : AC :=
 .seq (.reg []
 [⟨some 3, none, .box, [.t 0]⟩,
 ⟨some 5, none, .box, [.t 2]⟩,
 ⟨some 6, none, .alloc [.nils], []⟩])
 (.seq (.reg []
 [⟨some 7, none, .bslice 3 88, []⟩,
 ⟨some 8, none, .fldA 0, [.t 3]⟩,
 ⟨some 9, none, .load none, [.t 8]⟩,
 ⟨some 10, none, .append 3 88 56, [.t 7, .t 9]⟩,
 ⟨some 11, none, .fldA 0, [.t 3]⟩,
 ⟨none, none, .store 1, [.t 11, .t 10]⟩])
 (.seq (.reg []
 [⟨some 12, none, .fldA 0, [.t 3]⟩,
 ⟨some 13, none, .load none, [.t 12]⟩,
 ⟨some 14, none, .mov, [.t 1]⟩,
 ⟨some 15, none, .load (some 3), [.t 5]⟩,
 ⟨some 16, none, .idxA 3, [.t 13, .t 14]⟩,
 ⟨none, none, .store 3, [.t 16, .t 15]⟩])
 (.seq (.reg []
 [⟨some 17, none, .load (some 1), [.t 3]⟩,
 ⟨none, none, .store 1, [.t 6, .t 17]⟩])
 .ret)))
theorem i41 : fnInfo Try.prog 41 = some (18, [.c 6 (some 1)], ac41) := by kernel_rfl
/-- "(crossroads/redist.Border).hears": 34 temporaries, 3 parameters, results some [.t 6]. -/
def ac42 : AC :=
 .seq (.reg []
 [⟨some 3, none, .box, [.t 0]⟩,
 ⟨some 4, none, .box, [.t 1]⟩,
 ⟨some 5, none, .box, [.t 2]⟩,
 ⟨some 6, none, .mov, [.c (.bool false)]⟩])
 (.seq (.reg []
 [⟨some 10, none, .load (some 3), [.t 4]⟩,
 ⟨some 11, none, .fldA 0, [.t 5]⟩,
 ⟨some 12, none, .load (some 2), [.t 11]⟩,
 ⟨some 13, none, .call 33, [.t 10, .t 12]⟩,
 ⟨some 9, none, .mov, [.t 13]⟩,
 ⟨some 14, none, .ext 0, [.t 9]⟩,
 ⟨some 15, none, .ext 1, [.t 9]⟩,
 ⟨some 7, none, .mov, [.t 14]⟩,
 ⟨some 8, none, .mov, [.t 15]⟩])
 (.seq (.reg []
 [⟨some 16, none, .mov, [.t 8]⟩,
 ⟨some 17, none, .unNot, [.t 16]⟩,
 ⟨some 18, none, .mov, [.t 17]⟩,
 ⟨some 19, some (18, true), .fldA 2, [.t 5]⟩,
 ⟨some 20, some (18, true), .load none, [.t 19]⟩,
 ⟨some 21, some (18, true), .fldA 0, [.t 4]⟩,
 ⟨some 22, some (18, true), .load none, [.t 21]⟩,
 ⟨some 23, some (18, true), .bin .neq .scal, [.t 20, .t 22]⟩,
 ⟨some 24, none, .pick, [.t 18, .t 23, .c (.bool false)]⟩,
 ⟨some 25, none, .mov, [.t 24]⟩,
 ⟨some 26, some (25, true), .fldA 2, [.t 3]⟩,
 ⟨some 27, some (25, true), .load none, [.t 26]⟩,
 ⟨some 28, some (25, true), .mov, [.t 27]⟩,
 ⟨some 29, some (28, true), .fldA 3, [.t 5]⟩,
 ⟨some 30, some (28, true), .load none, [.t 29]⟩,
 ⟨some 31, some (25, true), .pick, [.t 28, .t 30, .c (.bool false)]⟩,
 ⟨some 32, some (25, true), .unNot, [.t 31]⟩,
 ⟨some 33, none, .pick, [.t 25, .t 32, .c (.bool false)]⟩,
 ⟨some 6, none, .mov, [.t 33]⟩])
 .ret))
theorem i42 : fnInfo Try.prog 42 = some (34, [.t 6], ac42) := by kernel_rfl
/-- "(crossroads/redist.Domain).at": 12 temporaries, 2 parameters, results some [.t 4, .t 5]. -/
def ac43 : AC :=
 .seq (.reg []
 [⟨some 2, none, .box, [.t 0]⟩,
 ⟨some 3, none, .box, [.t 1]⟩,
 ⟨some 4, none, .mov, [.c (.int .i64 0)]⟩,
 ⟨some 5, none, .mov, [.c (.bool false)]⟩])
 (.seq (.reg []
 [⟨some 6, none, .fldA 2, [.t 2]⟩,
 ⟨some 7, none, .load none, [.t 6]⟩,
 ⟨some 8, none, .load (some 2), [.t 3]⟩,
 ⟨some 9, none, .call 61, [.t 7, .t 8, .f 62]⟩,
 ⟨some 10, none, .ext 0, [.t 9]⟩,
 ⟨some 11, none, .ext 1, [.t 9]⟩,
 ⟨some 4, none, .mov, [.t 10]⟩,
 ⟨some 5, none, .mov, [.t 11]⟩])
 .ret)
theorem i43 : fnInfo Try.prog 43 = some (12, [.t 4, .t 5], ac43) := by kernel_rfl
/-- "slices.Clone[[]crossroads/redist.Ext,crossroads/redist.Ext]": 8 temporaries, 1 parameters, results some [.t 2]. -/
def ac44 : AC :=
 .seq (.reg []
 [⟨some 2, none, .mov, [.c .nils]⟩])
 (.seq (.seq (.reg []
 [⟨some 3, none, .mov, [.t 0]⟩,
 ⟨some 4, none, .bin .eql .sl, [.t 3, .c .nils]⟩])
 (.cond (.t 4)
 (.seq (.reg []
 [⟨some 2, none, .mov, [.c .nils]⟩])
 .ret)
 .skip))
 (.seq (.reg []
 [⟨some 5, none, .bslice 4 42, []⟩,
 ⟨some 6, none, .mov, [.t 0]⟩,
 ⟨some 7, none, .append 4 42 24, [.t 5, .t 6]⟩,
 ⟨some 2, none, .mov, [.t 7]⟩])
 .ret))
theorem i44 : fnInfo Try.prog 44 = some (8, [.t 2], ac44) := by kernel_rfl
/-- "slices.Insert[[]crossroads/redist.Ext,crossroads/redist.Ext]": 95 temporaries, 3 parameters, results some [.t 6]. -/
def ac45 : AC :=
 .seq (.reg []
 [⟨some 6, none, .mov, [.c .nils]⟩])
 (.seq (.reg []
 [⟨some 10, none, .mov, [.t 0]⟩,
 ⟨some 11, none, .mov, [.t 1]⟩,
 ⟨some 12, none, .slice 4 true false, [.t 10, .t 11]⟩])
 (.seq (.reg []
 [⟨some 13, none, .mov, [.t 2]⟩,
 ⟨some 14, none, .lenL, [.t 13]⟩,
 ⟨some 7, none, .mov, [.t 14]⟩])
 (.seq (.seq (.reg []
 [⟨some 15, none, .mov, [.t 7]⟩,
 ⟨some 16, none, .bin .eql .scal, [.t 15, .c (.int .i64 0)]⟩])
 (.cond (.t 16)
 (.seq (.reg []
 [⟨some 17, none, .mov, [.t 0]⟩,
 ⟨some 6, none, .mov, [.t 17]⟩])
 .ret)
 .skip))
 (.seq (.reg []
 [⟨some 18, none, .mov, [.t 0]⟩,
 ⟨some 19, none, .lenL, [.t 18]⟩,
 ⟨some 8, none, .mov, [.t 19]⟩])
 (.seq (.seq (.reg []
 [⟨some 20, none, .mov, [.t 1]⟩,
 ⟨some 21, none, .mov, [.t 8]⟩,
 ⟨some 22, none, .bin .eql .scal, [.t 20, .t 21]⟩])
 (.cond (.t 22)
 (.seq (.reg []
 [⟨some 23, none, .mov, [.t 0]⟩,
 ⟨some 24, none, .mov, [.t 2]⟩,
 ⟨some 25, none, .append 4 42 24, [.t 23, .t 24]⟩,
 ⟨some 6, none, .mov, [.t 25]⟩])
 .ret)
 .skip))
 (.seq (.seq (.reg []
 [⟨some 26, none, .mov, [.t 8]⟩,
 ⟨some 27, none, .mov, [.t 7]⟩,
 ⟨some 28, none, .bin .add .scal, [.t 26, .t 27]⟩,
 ⟨some 29, none, .mov, [.t 0]⟩,
 ⟨some 30, none, .capL, [.t 29]⟩,
 ⟨some 31, none, .bin .gtr .scal, [.t 28, .t 30]⟩])
 (.cond (.t 31)
 (.seq (.reg []
 [⟨some 32, none, .mov, [.t 0]⟩,
 ⟨some 33, none, .mov, [.t 1]⟩,
 ⟨some 34, none, .slice 4 false true, [.t 32, .t 33]⟩,
 ⟨some 35, none, .mov, [.t 8]⟩,
 ⟨some 36, none, .mov, [.t 7]⟩,
 ⟨some 37, none, .bin .add .scal, [.t 35, .t 36]⟩,
 ⟨some 38, none, .mov, [.t 1]⟩,
 ⟨some 39, none, .bin .sub .scal, [.t 37, .t 38]⟩,
 ⟨some 40, none, .appendZ 4 42 24 [.int .u32 0, .int .i64 0, .int .u32 0, .bool false], [.t 34, .t 39]⟩,
 ⟨some 9, none, .mov, [.t 40]⟩])
 (.seq (.reg []
 [⟨some 41, none, .mov, [.t 9]⟩,
 ⟨some 42, none, .mov, [.t 1]⟩,
 ⟨some 43, none, .slice 4 true false, [.t 41, .t 42]⟩,
 ⟨some 44, none, .mov, [.t 2]⟩,
 ⟨some 45, none, .copy 4, [.t 43, .t 44]⟩])
 (.seq (.reg [[], [], [], [1, 2], [0, 3], [], [], [5, 6], [4, 7]]
 [⟨some 46, none, .mov, [.t 9]⟩,
 ⟨some 47, none, .mov, [.t 1]⟩,
 ⟨some 48, none, .mov, [.t 7]⟩,
 ⟨some 49, none, .bin .add .scal, [.t 47, .t 48]⟩,
 ⟨some 50, none, .slice 4 true false, [.t 46, .t 49]⟩,
 ⟨some 51, none, .mov, [.t 0]⟩,
 ⟨some 52, none, .mov, [.t 1]⟩,
 ⟨some 53, none, .slice 4 true false, [.t 51, .t 52]⟩,
 ⟨some 54, none, .copy 4, [.t 50, .t 53]⟩])
 (.seq (.reg []
 [⟨some 55, none, .mov, [.t 9]⟩,
 ⟨some 6, none, .mov, [.t 55]⟩])
 .ret))))
 .skip))
 (.seq (.reg []
 [⟨some 56, none, .mov, [.t 0]⟩,
 ⟨some 57, none, .mov, [.t 8]⟩,
 ⟨some 58, none, .mov, [.t 7]⟩,
 ⟨some 59, none, .bin .add .scal, [.t 57, .t 58]⟩,
 ⟨some 60, none, .slice 4 false true, [.t 56, .t 59]⟩,
 ⟨some 0, none, .mov, [.t 60]⟩])
 (.seq (.seq (.reg []
 [⟨some 61, none, .mov, [.t 2]⟩,
 ⟨some 62, none, .mov, [.t 0]⟩,
 ⟨some 63, none, .mov, [.t 1]⟩,
 ⟨some 64, none, .mov, [.t 7]⟩,
 ⟨some 65, none, .bin .add .scal, [.t 63, .t 64]⟩,
 ⟨some 66, none, .slice 4 true false, [.t 62, .t 65]⟩,
 ⟨some 67, none, .call 63, [.t 61, .t 66]⟩,
 ⟨some 68, none, .unNot, [.t 67]⟩])
 (.cond (.t 68)
 (.seq (.reg [[], [], [], [1, 2], [0, 3], [], [], [5, 6], [4, 7]]
 [⟨some 69, none, .mov, [.t 0]⟩,
 ⟨some 70, none, .mov, [.t 1]⟩,
 ⟨some 71, none, .mov, [.t 7]⟩,
 ⟨some 72, none, .bin .add .scal, [.t 70, .t 71]⟩,
 ⟨some 73, none, .slice 4 true false, [.t 69, .t 72]⟩,
 ⟨some 74, none, .mov, [.t 0]⟩,
 ⟨some 75, none, .mov, [.t 1]⟩,
 ⟨some 76, none, .slice 4 true false, [.t 74, .t 75]⟩,
 ⟨some 77, none, .copy 4, [.t 73, .t 76]⟩])
 (.seq (.reg []
 [⟨some 78, none, .mov, [.t 0]⟩,
 ⟨some 79, none, .mov, [.t 1]⟩,
 ⟨some 80, none, .slice 4 true false, [.t 78, .t 79]⟩,
 ⟨some 81, none, .mov, [.t 2]⟩,
 ⟨some 82, none, .copy 4, [.t 80, .t 81]⟩])
 (.seq (.reg []
 [⟨some 83, none, .mov, [.t 0]⟩,
 ⟨some 6, none, .mov, [.t 83]⟩])
 .ret)))
 .skip))
 (.seq (.reg []
 [⟨some 84, none, .mov, [.t 0]⟩,
 ⟨some 85, none, .mov, [.t 8]⟩,
 ⟨some 86, none, .slice 4 true false, [.t 84, .t 85]⟩,
 ⟨some 87, none, .mov, [.t 2]⟩,
 ⟨some 88, none, .copy 4, [.t 86, .t 87]⟩])
 (.seq (.reg []
 [⟨some 89, none, .mov, [.t 0]⟩,
 ⟨some 90, none, .mov, [.t 1]⟩,
 ⟨some 91, none, .slice 4 true false, [.t 89, .t 90]⟩,
 ⟨some 92, none, .mov, [.t 7]⟩,
 ⟨some 93, none, .call 64, [.t 91, .t 92]⟩])
 (.seq (.reg []
 [⟨some 94, none, .mov, [.t 0]⟩,
 ⟨some 6, none, .mov, [.t 94]⟩])
 .ret)))))))))))
theorem i45 : fnInfo Try.prog 45 = some (95, [.t 6], ac45) := by kernel_rfl
def ac46_1 : AC :=
 .seq (.seq (.reg []
 [⟨some 14, none, .mov, [.t 8]⟩,
 ⟨some 15, none, .mov, [.t 5]⟩,
 ⟨some 16, none, .lenL, [.t 15]⟩,
 ⟨some 17, none, .bin .lss .scal, [.t 14, .t 16]⟩])
 (.cond (.t 17)
 .skip
 (.exit 0)))
 (.seq (.block 1 (.seq (.seq (.reg [[], [0], [1], [2], [3, 2], [2], [2], [5, 6, 2], [7, 2], [8, 2], [4, 9, 2, 2], [2, 10]]
 [⟨some 20, none, .mov, [.t 7]⟩,
 ⟨some 21, none, .unNot, [.t 20]⟩,
 ⟨some 22, none, .mov, [.t 21]⟩,
 ⟨some 23, some (22, true), .fldA 0, [.t 3]⟩,
 ⟨some 24, some (22, true), .load (some 2), [.t 23]⟩,
 ⟨some 25, some (22, true), .mov, [.t 5]⟩,
 ⟨some 26, some (22, true), .mov, [.t 8]⟩,
 ⟨some 27, some (22, true), .idxA 4, [.t 25, .t 26]⟩,
 ⟨some 28, some (22, true), .fldA 0, [.t 27]⟩,
 ⟨some 29, some (22, true), .load (some 2), [.t 28]⟩,
 ⟨some 30, some (22, true), .call 39, [.t 24, .t 29]⟩,
 ⟨some 31, none, .pick, [.t 22, .t 30, .c (.bool false)]⟩])
 (.cond (.t 31)
 (.seq (.reg []
 [⟨some 32, none, .mov, [.t 6]⟩,
 ⟨some 33, none, .load (some 4), [.t 3]⟩,
 ⟨some 34, none, .bslice 4 70, [.t 33]⟩,
 ⟨some 35, none, .append 4 70 24, [.t 32, .t 34]⟩,
 ⟨some 6, none, .mov, [.t 35]⟩])
 (.reg []
 [⟨some 7, none, .mov, [.c (.bool true)]⟩]))
 .skip))
 (.reg []
 [⟨some 36, none, .mov, [.t 6]⟩,
 ⟨some 37, none, .mov, [.t 5]⟩,
 ⟨some 38, none, .mov, [.t 8]⟩,
 ⟨some 39, none, .idxA 4, [.t 37, .t 38]⟩,
 ⟨some 40, none, .load (some 4), [.t 39]⟩,
 ⟨some 41, none, .bslice 4 70, [.t 40]⟩,
 ⟨some 42, none, .append 4 70 24, [.t 36, .t 41]⟩,
 ⟨some 6, none, .mov, [.t 42]⟩])))
 (.reg []
 [⟨some 18, none, .mov, [.t 8]⟩,
 ⟨some 19, none, .bin .add .scal, [.t 18, .c (.int .i64 1)]⟩,
 ⟨some 8, none, .mov, [.t 19]⟩]))
/-- "crossroads/crossroadsref28.into": 50 temporaries, 2 parameters, results some [.t 4]. -/
def ac46 : AC :=
 .seq (.reg []
 [⟨some 3, none, .box, [.t 1]⟩,
 ⟨some 4, none, .mov, [.c .nils]⟩])
 (.seq (.reg []
 [⟨some 9, none, .mov, [.t 0]⟩,
 ⟨some 10, none, .fldA 0, [.t 3]⟩,
 ⟨some 11, none, .load (some 2), [.t 10]⟩,
 ⟨some 12, none, .call 40, [.t 9, .t 11]⟩,
 ⟨some 5, none, .mov, [.t 12]⟩])
 (.seq (.reg []
 [⟨some 13, none, .bslice 4 70, []⟩,
 ⟨some 6, none, .mov, [.t 13]⟩])
 (.seq (.reg []
 [⟨some 7, none, .mov, [.c (.bool false)]⟩])
 (.seq (.seq (.reg []
 [⟨some 8, none, .mov, [.c (.int .i64 0)]⟩])
 (.block 0 (.loop ac46_1)))
 (.seq (.seq (.reg []
 [⟨some 43, none, .mov, [.t 7]⟩,
 ⟨some 44, none, .unNot, [.t 43]⟩])
 (.cond (.t 44)
 (.reg []
 [⟨some 45, none, .mov, [.t 6]⟩,
 ⟨some 46, none, .load (some 4), [.t 3]⟩,
 ⟨some 47, none, .bslice 4 70, [.t 46]⟩,
 ⟨some 48, none, .append 4 70 24, [.t 45, .t 47]⟩,
 ⟨some 6, none, .mov, [.t 48]⟩])
 .skip))
 (.seq (.reg []
 [⟨some 49, none, .mov, [.t 6]⟩,
 ⟨some 4, none, .mov, [.t 49]⟩])
 .ret))))))
theorem i46 : fnInfo Try.prog 46 = some (50, [.t 4], ac46) := by kernel_rfl
def ac51_1 : AC :=
 .seq (.reg []
 [⟨some 34, none, .bin .lss .scal, [.t 33, .t 32]⟩])
 (.seq (.cond (.t 34)
 .skip
 (.exit 2))
 (.seq (.block 3 (.seq (.reg []
 [⟨some 35, none, .idxA 2, [.t 31, .t 33]⟩,
 ⟨some 36, none, .load (some 2), [.t 35]⟩,
 ⟨some 10, none, .alloc [.int .u32 0, .int .i64 0], []⟩,
 ⟨none, none, .store 2, [.t 10, .t 36]⟩])
 (.seq (.reg []
 [⟨some 38, none, .load (some 1), [.t 2]⟩,
 ⟨some 39, none, .load (some 3), [.t 8]⟩,
 ⟨some 40, none, .load (some 2), [.t 10]⟩,
 ⟨some 41, none, .call 17, [.t 38, .t 39, .t 40]⟩,
 ⟨some 37, none, .mov, [.t 41]⟩,
 ⟨some 42, none, .ext 0, [.t 37]⟩,
 ⟨some 43, none, .ext 1, [.t 37]⟩,
 ⟨some 44, none, .ext 2, [.t 37]⟩,
 ⟨some 11, none, .alloc [.nils], []⟩,
 ⟨none, none, .store 1, [.t 11, .t 42]⟩,
 ⟨some 12, none, .mov, [.t 43]⟩,
 ⟨some 13, none, .mov, [.t 44]⟩])
 (.reg []
 [⟨some 45, none, .load (some 1), [.t 11]⟩,
 ⟨some 46, none, .mov, [.t 6]⟩,
 ⟨some 47, none, .mov, [.t 46]⟩,
 ⟨some 48, some (47, false), .mov, [.t 12]⟩,
 ⟨some 49, none, .pick, [.t 47, .c (.bool true), .t 48]⟩,
 ⟨none, none, .store 1, [.t 2, .t 45]⟩,
 ⟨some 6, none, .mov, [.t 49]⟩]))))
 (.reg []
 [⟨some 50, none, .bin .add .scal, [.t 33, .c (.int .i64 1)]⟩,
 ⟨some 33, none, .mov, [.t 50]⟩])))
def ac51_2 : AC :=
 .seq (.reg []
 [⟨some 17, none, .bin .lss .scal, [.t 16, .t 15]⟩])
 (.seq (.cond (.t 17)
 .skip
 (.exit 0))
 (.seq (.block 1 (.seq (.reg []
 [⟨some 18, none, .idxA 3, [.t 14, .t 16]⟩,
 ⟨some 19, none, .load (some 3), [.t 18]⟩,
 ⟨some 8, none, .alloc [.int .i64 0, .int .i64 0, .bool false], []⟩,
 ⟨none, none, .store 3, [.t 8, .t 19]⟩])
 (.seq (.seq (.reg []
 [⟨some 20, none, .load (some 1), [.t 2]⟩,
 ⟨some 21, none, .fldA 0, [.t 8]⟩,
 ⟨some 22, none, .load none, [.t 21]⟩,
 ⟨some 23, none, .call 30, [.t 20, .t 22]⟩,
 ⟨some 24, none, .unNot, [.t 23]⟩])
 (.cond (.t 24)
 (.exit 1)
 .skip))
 (.seq (.reg []
 [⟨some 25, none, .fldA 0, [.t 2]⟩,
 ⟨some 26, none, .load none, [.t 25]⟩,
 ⟨some 27, none, .fldA 0, [.t 8]⟩,
 ⟨some 28, none, .load none, [.t 27]⟩,
 ⟨some 29, none, .idxA 3, [.t 26, .t 28]⟩,
 ⟨some 30, none, .load (some 3), [.t 29]⟩,
 ⟨some 31, none, .call 65, [.t 30]⟩,
 ⟨some 32, none, .lenL, [.t 31]⟩,
 ⟨some 33, none, .mov, [.c (.int .i64 0)]⟩])
 (.block 2 (.loop ac51_1))))))
 (.reg []
 [⟨some 51, none, .bin .add .scal, [.t 16, .c (.int .i64 1)]⟩,
 ⟨some 16, none, .mov, [.t 51]⟩])))
/-- "crossroads/redist.once": 54 temporaries, 2 parameters, results some [.c 4 (some 1), .t 5]. -/
def ac51 : AC :=
 .seq (.reg []
 [⟨some 2, none, .box, [.t 0]⟩,
 ⟨some 4, none, .alloc [.nils], []⟩,
 ⟨some 5, none, .mov, [.c (.bool false)]⟩])
 (.seq (.reg []
 [⟨some 6, none, .mov, [.c (.bool false)]⟩])
 (.seq (.seq (.reg []
 [⟨some 14, none, .mov, [.t 1]⟩,
 ⟨some 15, none, .lenL, [.t 14]⟩,
 ⟨some 16, none, .mov, [.c (.int .i64 0)]⟩])
 (.block 0 (.loop ac51_2)))
 (.seq (.reg []
 [⟨some 52, none, .load (some 1), [.t 2]⟩,
 ⟨some 53, none, .mov, [.t 6]⟩,
 ⟨none, none, .store 1, [.t 4, .t 52]⟩,
 ⟨some 5, none, .mov, [.t 53]⟩])
 .ret)))
theorem i51 : fnInfo Try.prog 51 = some (54, [.c 4 (some 1), .t 5], ac51) := by kernel_rfl
/-- "crossroads/addr.isLong": 9 temporaries, 1 parameters, results some [.t 2]. -/
def ac52 : AC :=
 .seq (.reg []
 [⟨some 2, none, .mov, [.c (.bool false)]⟩])
 (.seq (.reg []
 [⟨some 3, none, .mov, [.t 0]⟩,
 ⟨some 4, none, .bin .geq .scal, [.t 3, .c (.int .i64 0)]⟩,
 ⟨some 5, none, .mov, [.t 4]⟩,
 ⟨some 6, some (5, true), .mov, [.t 0]⟩,
 ⟨some 7, some (5, true), .bin .leq .scal, [.t 6, .c (.int .i64 32)]⟩,
 ⟨some 8, none, .pick, [.t 5, .t 7, .c (.bool false)]⟩,
 ⟨some 2, none, .mov, [.t 8]⟩])
 .ret)
theorem i52 : fnInfo Try.prog 52 = some (9, [.t 2], ac52) := by kernel_rfl
/-- "crossroads/addr.Mask": 10 temporaries, 1 parameters, results some [.t 2]. -/
def ac53 : AC :=
 .seq (.reg []
 [⟨some 2, none, .mov, [.c (.int .u32 0)]⟩])
 (.seq (.reg []
 [⟨some 3, none, .mov, [.t 0]⟩,
 ⟨some 4, none, .minmax true, [.t 3, .c (.int .i64 0)]⟩,
 ⟨some 5, none, .minmax false, [.t 4, .c (.int .i64 32)]⟩,
 ⟨some 0, none, .mov, [.t 5]⟩])
 (.seq (.reg []
 [⟨some 6, none, .mov, [.t 0]⟩,
 ⟨some 7, none, .bin .sub .scal, [.c (.int .i64 32), .t 6]⟩,
 ⟨some 8, none, .bin .shl .scal, [.c (.int .u64 4294967295), .t 7]⟩,
 ⟨some 9, none, .conv .u32, [.t 8]⟩,
 ⟨some 2, none, .mov, [.t 9]⟩])
 .ret))
theorem i53 : fnInfo Try.prog 53 = some (10, [.t 2], ac53) := by kernel_rfl
/-- "slices.Delete[[]crossroads/redist.Ext,crossroads/redist.Ext]": 33 temporaries, 3 parameters, results some [.t 6]. -/
def ac54 : AC :=
 .seq (.reg []
 [⟨some 6, none, .mov, [.c .nils]⟩])
 (.seq (.reg []
 [⟨some 8, none, .mov, [.t 0]⟩,
 ⟨some 9, none, .mov, [.t 1]⟩,
 ⟨some 10, none, .mov, [.t 2]⟩,
 ⟨some 11, none, .mov, [.t 0]⟩,
 ⟨some 12, none, .lenL, [.t 11]⟩,
 ⟨some 13, none, .slice3 4, [.t 8, .t 9, .t 10, .t 12]⟩])
 (.seq (.seq (.reg []
 [⟨some 14, none, .mov, [.t 1]⟩,
 ⟨some 15, none, .mov, [.t 2]⟩,
 ⟨some 16, none, .bin .eql .scal, [.t 14, .t 15]⟩])
 (.cond (.t 16)
 (.seq (.reg []
 [⟨some 17, none, .mov, [.t 0]⟩,
 ⟨some 6, none, .mov, [.t 17]⟩])
 .ret)
 .skip))
 (.seq (.reg []
 [⟨some 18, none, .mov, [.t 0]⟩,
 ⟨some 19, none, .lenL, [.t 18]⟩,
 ⟨some 7, none, .mov, [.t 19]⟩])
 (.seq (.reg [[], [], [0, 1], [], [], [3, 4], [2, 5], [6, 6, 0, 1, 2, 3, 4, 5, 6]]
 [⟨some 20, none, .mov, [.t 0]⟩,
 ⟨some 21, none, .mov, [.t 1]⟩,
 ⟨some 22, none, .slice 4 false true, [.t 20, .t 21]⟩,
 ⟨some 23, none, .mov, [.t 0]⟩,
 ⟨some 24, none, .mov, [.t 2]⟩,
 ⟨some 25, none, .slice 4 true false, [.t 23, .t 24]⟩,
 ⟨some 26, none, .append 4 42 24, [.t 22, .t 25]⟩,
 ⟨some 0, none, .mov, [.t 26]⟩])
 (.seq (.reg []
 [⟨some 27, none, .mov, [.t 0]⟩,
 ⟨some 28, none, .mov, [.t 0]⟩,
 ⟨some 29, none, .lenL, [.t 28]⟩,
 ⟨some 30, none, .mov, [.t 7]⟩,
 ⟨some 31, none, .slice 4 true true, [.t 27, .t 29, .t 30]⟩,
 ⟨none, none, .clear 4 [.int .u32 0, .int .i64 0, .int .u32 0, .bool false], [.t 31]⟩])
 (.seq (.reg []
 [⟨some 32, none, .mov, [.t 0]⟩,
 ⟨some 6, none, .mov, [.t 32]⟩])
 .ret))))))
theorem i54 : fnInfo Try.prog 54 = some (33, [.t 6], ac54) := by kernel_rfl
def ac55_1 : AC :=
 .seq (.seq (.reg []
 [⟨some 15, none, .mov, [.t 9]⟩,
 ⟨some 16, none, .mov, [.t 10]⟩,
 ⟨some 17, none, .bin .lss .scal, [.t 15, .t 16]⟩])
 (.cond (.t 17)
 .skip
 (.exit 0)))
 (.block 1 (.seq (.reg []
 [⟨some 18, none, .mov, [.t 9]⟩,
 ⟨some 19, none, .mov, [.t 10]⟩,
 ⟨some 20, none, .bin .add .scal, [.t 18, .t 19]⟩,
 ⟨some 21, none, .conv .u64, [.t 20]⟩,
 ⟨some 22, none, .bin .shr .scal, [.t 21, .c (.int .u64 1)]⟩,
 ⟨some 23, none, .conv .i64, [.t 22]⟩,
 ⟨some 11, none, .mov, [.t 23]⟩])
 (.seq (.reg [[], [], [], [1, 2], [3], [], [0, 4, 5], [6]]
 [⟨some 24, none, .mov, [.t 2]⟩,
 ⟨some 25, none, .mov, [.t 0]⟩,
 ⟨some 26, none, .mov, [.t 11]⟩,
 ⟨some 27, none, .idxA 2, [.t 25, .t 26]⟩,
 ⟨some 28, none, .load (some 2), [.t 27]⟩,
 ⟨some 29, none, .load (some 2), [.t 4]⟩,
 ⟨some 30, none, .callv, [.t 24, .t 28, .t 29]⟩,
 ⟨some 31, none, .bin .lss .scal, [.t 30, .c (.int .i64 0)]⟩])
 (.cond (.t 31)
 (.reg []
 [⟨some 32, none, .mov, [.t 11]⟩,
 ⟨some 33, none, .bin .add .scal, [.t 32, .c (.int .i64 1)]⟩,
 ⟨some 9, none, .mov, [.t 33]⟩])
 (.reg []
 [⟨some 34, none, .mov, [.t 11]⟩,
 ⟨some 10, none, .mov, [.t 34]⟩])))))
/-- "slices.BinarySearchFunc[[]crossroads/api.Prefix,crossroads/api.Prefix,crossroads/api.Prefix]": 49 temporaries, 3 parameters, results some [.t 6, .t 7]. -/
def ac55 : AC :=
 .seq (.reg []
 [⟨some 4, none, .box, [.t 1]⟩,
 ⟨some 6, none, .mov, [.c (.int .i64 0)]⟩,
 ⟨some 7, none, .mov, [.c (.bool false)]⟩])
 (.seq (.reg []
 [⟨some 12, none, .mov, [.t 0]⟩,
 ⟨some 13, none, .lenL, [.t 12]⟩,
 ⟨some 8, none, .mov, [.t 13]⟩])
 (.seq (.reg []
 [⟨some 14, none, .mov, [.t 8]⟩,
 ⟨some 9, none, .mov, [.c (.int .i64 0)]⟩,
 ⟨some 10, none, .mov, [.t 14]⟩])
 (.seq (.block 0 (.loop ac55_1))
 (.seq (.reg [[], [], [], [1, 2], [3], [4], [4], [4], [6, 7, 4], [8, 4], [4], [5, 9, 10, 4, 4], [11, 4], [4, 12], [0, 11, 0], [13, 14, 0, 1, 2, 3, 4, 5, 6, 7, 8, 9, 10, 11, 12, 13, 14]]
 [⟨some 35, none, .mov, [.t 9]⟩,
 ⟨some 36, none, .mov, [.t 9]⟩,
 ⟨some 37, none, .mov, [.t 8]⟩,
 ⟨some 38, none, .bin .lss .scal, [.t 36, .t 37]⟩,
 ⟨some 39, none, .mov, [.t 38]⟩,
 ⟨some 40, some (39, true), .mov, [.t 2]⟩,
 ⟨some 41, some (39, true), .mov, [.t 0]⟩,
 ⟨some 42, some (39, true), .mov, [.t 9]⟩,
 ⟨some 43, some (39, true), .idxA 2, [.t 41, .t 42]⟩,
 ⟨some 44, some (39, true), .load (some 2), [.t 43]⟩,
 ⟨some 45, some (39, true), .load (some 2), [.t 4]⟩,
 ⟨some 46, some (39, true), .callv, [.t 40, .t 44, .t 45]⟩,
 ⟨some 47, some (39, true), .bin .eql .scal, [.t 46, .c (.int .i64 0)]⟩,
 ⟨some 48, none, .pick, [.t 39, .t 47, .c (.bool false)]⟩,
 ⟨some 6, none, .mov, [.t 35]⟩,
 ⟨some 7, none, .mov, [.t 48]⟩])
 .ret))))
theorem i55 : fnInfo Try.prog 55 = some (49, [.t 6, .t 7], ac55) := by kernel_rfl
/-- "crossroads/redist.order": 17 temporaries, 2 parameters, results some [.t 4]. -/
def ac56 : AC :=
 .seq (.reg []
 [⟨some 2, none, .box, [.t 0]⟩,
 ⟨some 3, none, .box, [.t 1]⟩,
 ⟨some 4, none, .mov, [.c (.int .i64 0)]⟩])
 (.seq (.reg [[], [0], [], [2], [1, 3], [], [5], [], [7], [6, 8, 4], [4, 9], [10, 9], [11, 11, 0, 1, 2, 3, 4, 5, 6, 7, 8, 9, 10, 11]]
 [⟨some 5, none, .fldA 0, [.t 2]⟩,
 ⟨some 6, none, .load none, [.t 5]⟩,
 ⟨some 7, none, .fldA 0, [.t 3]⟩,
 ⟨some 8, none, .load none, [.t 7]⟩,
 ⟨some 9, none, .call 67, [.t 6, .t 8]⟩,
 ⟨some 10, none, .fldA 1, [.t 2]⟩,
 ⟨some 11, none, .load none, [.t 10]⟩,
 ⟨some 12, none, .fldA 1, [.t 3]⟩,
 ⟨some 13, none, .load none, [.t 12]⟩,
 ⟨some 14, none, .call 68, [.t 11, .t 13]⟩,
 ⟨some 15, none, .bslice 1 3, [.t 9, .t 14]⟩,
 ⟨some 16, none, .call 66, [.t 15]⟩,
 ⟨some 4, none, .mov, [.t 16]⟩])
 .ret)
theorem i56 : fnInfo Try.prog 56 = some (17, [.t 4], ac56) := by kernel_rfl
/-- "slices.Clone[[]crossroads/redist.Domain,crossroads/redist.Domain]": 8 temporaries, 1 parameters, results some [.t 2]. -/
def ac59 : AC :=
 .seq (.reg []
 [⟨some 2, none, .mov, [.c .nils]⟩])
 (.seq (.seq (.reg []
 [⟨some 3, none, .mov, [.t 0]⟩,
 ⟨some 4, none, .bin .eql .sl, [.t 3, .c .nils]⟩])
 (.cond (.t 4)
 (.seq (.reg []
 [⟨some 2, none, .mov, [.c .nils]⟩])
 .ret)
 .skip))
 (.seq (.reg []
 [⟨some 5, none, .bslice 3 40, []⟩,
 ⟨some 6, none, .mov, [.t 0]⟩,
 ⟨some 7, none, .append 3 40 56, [.t 5, .t 6]⟩,
 ⟨some 2, none, .mov, [.t 7]⟩])
 .ret))
theorem i59 : fnInfo Try.prog 59 = some (8, [.t 2], ac59) := by kernel_rfl
/-- "crossroads/crossroadsref03.Bit": 18 temporaries, 2 parameters, results some [.t 4]. -/
def ac60 : AC :=
 .seq (.reg []
 [⟨some 4, none, .mov, [.c (.int .i64 0)]⟩])
 (.seq (.seq (.reg []
 [⟨some 5, none, .mov, [.t 1]⟩,
 ⟨some 6, none, .bin .lss .scal, [.t 5, .c (.int .i64 0)]⟩,
 ⟨some 7, none, .mov, [.t 6]⟩,
 ⟨some 8, some (7, false), .mov, [.t 1]⟩,
 ⟨some 9, some (7, false), .bin .gtr .scal, [.t 8, .c (.int .i64 31)]⟩,
 ⟨some 10, none, .pick, [.t 7, .c (.bool true), .t 9]⟩])
 (.cond (.t 10)
 (.seq (.reg []
 [⟨some 4, none, .mov, [.c (.int .i64 0)]⟩])
 .ret)
 .skip))
 (.seq (.reg []
 [⟨some 11, none, .mov, [.t 0]⟩,
 ⟨some 12, none, .mov, [.t 1]⟩,
 ⟨some 13, none, .bin .sub .scal, [.c (.int .i64 31), .t 12]⟩,
 ⟨some 14, none, .conv .u64, [.t 13]⟩,
 ⟨some 15, none, .bin .shr .scal, [.t 11, .t 14]⟩,
 ⟨some 16, none, .bin .and .scal, [.t 15, .c (.int .u32 1)]⟩,
 ⟨some 17, none, .conv .i64, [.t 16]⟩,
 ⟨some 4, none, .mov, [.t 17]⟩])
 .ret))
theorem i60 : fnInfo Try.prog 60 = some (18, [.t 4], ac60) := by kernel_rfl
def ac61_1 : AC :=
 .seq (.seq (.reg []
 [⟨some 15, none, .mov, [.t 9]⟩,
 ⟨some 16, none, .mov, [.t 10]⟩,
 ⟨some 17, none, .bin .lss .scal, [.t 15, .t 16]⟩])
 (.cond (.t 17)
 .skip
 (.exit 0)))
 (.block 1 (.seq (.reg []
 [⟨some 18, none, .mov, [.t 9]⟩,
 ⟨some 19, none, .mov, [.t 10]⟩,
 ⟨some 20, none, .bin .add .scal, [.t 18, .t 19]⟩,
 ⟨some 21, none, .conv .u64, [.t 20]⟩,
 ⟨some 22, none, .bin .shr .scal, [.t 21, .c (.int .u64 1)]⟩,
 ⟨some 23, none, .conv .i64, [.t 22]⟩,
 ⟨some 11, none, .mov, [.t 23]⟩])
 (.seq (.reg [[], [], [], [1, 2], [3], [], [0, 4, 5], [6]]
 [⟨some 24, none, .mov, [.t 2]⟩,
 ⟨some 25, none, .mov, [.t 0]⟩,
 ⟨some 26, none, .mov, [.t 11]⟩,
 ⟨some 27, none, .idxA 4, [.t 25, .t 26]⟩,
 ⟨some 28, none, .load (some 4), [.t 27]⟩,
 ⟨some 29, none, .load (some 2), [.t 4]⟩,
 ⟨some 30, none, .callv, [.t 24, .t 28, .t 29]⟩,
 ⟨some 31, none, .bin .lss .scal, [.t 30, .c (.int .i64 0)]⟩])
 (.cond (.t 31)
 (.reg []
 [⟨some 32, none, .mov, [.t 11]⟩,
 ⟨some 33, none, .bin .add .scal, [.t 32, .c (.int .i64 1)]⟩,
 ⟨some 9, none, .mov, [.t 33]⟩])
 (.reg []
 [⟨some 34, none, .mov, [.t 11]⟩,
 ⟨some 10, none, .mov, [.t 34]⟩])))))
/-- "slices.BinarySearchFunc[[]crossroads/redist.Ext,crossroads/redist.Ext,crossroads/api.Prefix]": 49 temporaries, 3 parameters, results some [.t 6, .t 7]. -/
def ac61 : AC :=
 .seq (.reg []
 [⟨some 4, none, .box, [.t 1]⟩,
 ⟨some 6, none, .mov, [.c (.int .i64 0)]⟩,
 ⟨some 7, none, .mov, [.c (.bool false)]⟩])
 (.seq (.reg []
 [⟨some 12, none, .mov, [.t 0]⟩,
 ⟨some 13, none, .lenL, [.t 12]⟩,
 ⟨some 8, none, .mov, [.t 13]⟩])
 (.seq (.reg []
 [⟨some 14, none, .mov, [.t 8]⟩,
 ⟨some 9, none, .mov, [.c (.int .i64 0)]⟩,
 ⟨some 10, none, .mov, [.t 14]⟩])
 (.seq (.block 0 (.loop ac61_1))
 (.seq (.reg [[], [], [], [1, 2], [3], [4], [4], [4], [6, 7, 4], [8, 4], [4], [5, 9, 10, 4, 4], [11, 4], [4, 12], [0, 11, 0], [13, 14, 0, 1, 2, 3, 4, 5, 6, 7, 8, 9, 10, 11, 12, 13, 14]]
 [⟨some 35, none, .mov, [.t 9]⟩,
 ⟨some 36, none, .mov, [.t 9]⟩,
 ⟨some 37, none, .mov, [.t 8]⟩,
 ⟨some 38, none, .bin .lss .scal, [.t 36, .t 37]⟩,
 ⟨some 39, none, .mov, [.t 38]⟩,
 ⟨some 40, some (39, true), .mov, [.t 2]⟩,
 ⟨some 41, some (39, true), .mov, [.t 0]⟩,
 ⟨some 42, some (39, true), .mov, [.t 9]⟩,
 ⟨some 43, some (39, true), .idxA 4, [.t 41, .t 42]⟩,
 ⟨some 44, some (39, true), .load (some 4), [.t 43]⟩,
 ⟨some 45, some (39, true), .load (some 2), [.t 4]⟩,
 ⟨some 46, some (39, true), .callv, [.t 40, .t 44, .t 45]⟩,
 ⟨some 47, some (39, true), .bin .eql .scal, [.t 46, .c (.int .i64 0)]⟩,
 ⟨some 48, none, .pick, [.t 39, .t 47, .c (.bool false)]⟩,
 ⟨some 6, none, .mov, [.t 35]⟩,
 ⟨some 7, none, .mov, [.t 48]⟩])
 .ret))))
theorem i61 : fnInfo Try.prog 61 = some (49, [.t 6, .t 7], ac61) := by kernel_rfl
/-- "(crossroads/redist.Domain).at$1": 9 temporaries, 2 parameters, results some [.t 4]. -/
def ac62 : AC :=
 .seq (.reg []
 [⟨some 2, none, .box, [.t 0]⟩,
 ⟨some 3, none, .box, [.t 1]⟩,
 ⟨some 4, none, .mov, [.c (.int .i64 0)]⟩])
 (.seq (.reg []
 [⟨some 5, none, .fldA 0, [.t 2]⟩,
 ⟨some 6, none, .load (some 2), [.t 5]⟩,
 ⟨some 7, none, .load (some 2), [.t 3]⟩,
 ⟨some 8, none, .call 56, [.t 6, .t 7]⟩,
 ⟨some 4, none, .mov, [.t 8]⟩])
 .ret)
theorem i62 : fnInfo Try.prog 62 = some (9, [.t 4], ac62) := by kernel_rfl
def ac65_1 : AC :=
 .seq (.reg []
 [⟨some 13, none, .bin .lss .scal, [.t 12, .t 11]⟩])
 (.seq (.cond (.t 13)
 .skip
 (.exit 0))
 (.seq (.block 1 (.seq (.reg []
 [⟨some 14, none, .idxA 4, [.t 10, .t 12]⟩,
 ⟨some 15, none, .load (some 4), [.t 14]⟩,
 ⟨some 5, none, .alloc [.int .u32 0, .int .i64 0, .int .u32 0, .bool false], []⟩,
 ⟨none, none, .store 4, [.t 5, .t 15]⟩])
 (.reg []
 [⟨some 16, none, .mov, [.t 3]⟩,
 ⟨some 17, none, .fldA 0, [.t 5]⟩,
 ⟨some 18, none, .load (some 2), [.t 17]⟩,
 ⟨some 19, none, .bslice 2 29, [.t 18]⟩,
 ⟨some 20, none, .append 2 29 16, [.t 16, .t 19]⟩,
 ⟨some 3, none, .mov, [.t 20]⟩])))
 (.reg []
 [⟨some 21, none, .bin .add .scal, [.t 12, .c (.int .i64 1)]⟩,
 ⟨some 12, none, .mov, [.t 21]⟩])))
/-- "(crossroads/redist.Domain).tells": 23 temporaries, 1 parameters, results some [.t 2]. -/
def ac65 : AC :=
 .seq (.reg []
 [⟨some 1, none, .box, [.t 0]⟩,
 ⟨some 2, none, .mov, [.c .nils]⟩])
 (.seq (.reg []
 [⟨some 6, none, .fldA 1, [.t 1]⟩,
 ⟨some 7, none, .load none, [.t 6]⟩,
 ⟨some 8, none, .call 35, [.t 7]⟩,
 ⟨some 3, none, .mov, [.t 8]⟩])
 (.seq (.seq (.reg []
 [⟨some 9, none, .fldA 2, [.t 1]⟩,
 ⟨some 10, none, .load none, [.t 9]⟩,
 ⟨some 11, none, .lenL, [.t 10]⟩,
 ⟨some 12, none, .mov, [.c (.int .i64 0)]⟩])
 (.block 0 (.loop ac65_1)))
 (.seq (.reg []
 [⟨some 22, none, .mov, [.t 3]⟩,
 ⟨some 2, none, .mov, [.t 22]⟩])
 .ret)))
theorem i65 : fnInfo Try.prog 65 = some (23, [.t 2], ac65) := by kernel_rfl
def ac66_1 : AC :=
 .seq (.reg []
 [⟨some 9, none, .bin .lss .scal, [.t 8, .t 7]⟩])
 (.seq (.cond (.t 9)
 .skip
 (.exit 0))
 (.seq (.block 1 (.seq (.reg []
 [⟨some 10, none, .idxA 1, [.t 6, .t 8]⟩,
 ⟨some 11, none, .load none, [.t 10]⟩,
 ⟨some 5, none, .mov, [.t 11]⟩])
 (.seq (.reg []
 [⟨some 12, none, .mov, [.t 5]⟩,
 ⟨some 13, none, .mov, [.t 3]⟩,
 ⟨some 14, none, .bin .neq .scal, [.t 12, .t 13]⟩])
 (.cond (.t 14)
 (.seq (.reg []
 [⟨some 15, none, .mov, [.t 5]⟩,
 ⟨some 2, none, .mov, [.t 15]⟩])
 .ret)
 .skip))))
 (.reg []
 [⟨some 16, none, .bin .add .scal, [.t 8, .c (.int .i64 1)]⟩,
 ⟨some 8, none, .mov, [.t 16]⟩])))
/-- "cmp.Or[int]": 18 temporaries, 1 parameters, results some [.t 2]. -/
def ac66 : AC :=
 .seq (.reg []
 [⟨some 2, none, .mov, [.c (.int .i64 0)]⟩])
 (.seq (.reg []
 [⟨some 3, none, .mov, [.c (.int .i64 0)]⟩])
 (.seq (.seq (.reg []
 [⟨some 6, none, .mov, [.t 0]⟩,
 ⟨some 7, none, .lenL, [.t 6]⟩,
 ⟨some 8, none, .mov, [.c (.int .i64 0)]⟩])
 (.block 0 (.loop ac66_1)))
 (.seq (.reg []
 [⟨some 17, none, .mov, [.t 3]⟩,
 ⟨some 2, none, .mov, [.t 17]⟩])
 .ret)))
theorem i66 : fnInfo Try.prog 66 = some (18, [.t 2], ac66) := by kernel_rfl
/-- "cmp.Compare[uint32]": 20 temporaries, 2 parameters, results some [.t 4]. -/
def ac67 : AC :=
 .seq (.reg []
 [⟨some 4, none, .mov, [.c (.int .i64 0)]⟩])
 (.seq (.reg []
 [⟨some 7, none, .mov, [.t 0]⟩,
 ⟨some 8, none, .call 71, [.t 7]⟩,
 ⟨some 5, none, .mov, [.t 8]⟩])
 (.seq (.reg []
 [⟨some 9, none, .mov, [.t 1]⟩,
 ⟨some 10, none, .call 71, [.t 9]⟩,
 ⟨some 6, none, .mov, [.t 10]⟩])
 (.seq (.seq (.reg []
 [⟨some 11, none, .mov, [.t 5]⟩])
 (.cond (.t 11)
 (.seq (.seq (.reg []
 [⟨some 12, none, .mov, [.t 6]⟩])
 (.cond (.t 12)
 (.seq (.reg []
 [⟨some 4, none, .mov, [.c (.int .i64 0)]⟩])
 .ret)
 .skip))
 (.seq (.reg []
 [⟨some 4, none, .mov, [.c (.int .i64 (-1))]⟩])
 .ret))
 .skip))
 (.seq (.seq (.reg []
 [⟨some 13, none, .mov, [.t 6]⟩])
 (.cond (.t 13)
 (.seq (.reg []
 [⟨some 4, none, .mov, [.c (.int .i64 1)]⟩])
 .ret)
 .skip))
 (.seq (.seq (.reg []
 [⟨some 14, none, .mov, [.t 0]⟩,
 ⟨some 15, none, .mov, [.t 1]⟩,
 ⟨some 16, none, .bin .lss .scal, [.t 14, .t 15]⟩])
 (.cond (.t 16)
 (.seq (.reg []
 [⟨some 4, none, .mov, [.c (.int .i64 (-1))]⟩])
 .ret)
 .skip))
 (.seq (.seq (.reg []
 [⟨some 17, none, .mov, [.t 0]⟩,
 ⟨some 18, none, .mov, [.t 1]⟩,
 ⟨some 19, none, .bin .gtr .scal, [.t 17, .t 18]⟩])
 (.cond (.t 19)
 (.seq (.reg []
 [⟨some 4, none, .mov, [.c (.int .i64 1)]⟩])
 .ret)
 .skip))
 (.seq (.reg []
 [⟨some 4, none, .mov, [.c (.int .i64 0)]⟩])
 .ret)))))))
theorem i67 : fnInfo Try.prog 67 = some (20, [.t 4], ac67) := by kernel_rfl
/-- "cmp.Compare[int]": 20 temporaries, 2 parameters, results some [.t 4]. -/
def ac68 : AC :=
 .seq (.reg []
 [⟨some 4, none, .mov, [.c (.int .i64 0)]⟩])
 (.seq (.reg []
 [⟨some 7, none, .mov, [.t 0]⟩,
 ⟨some 8, none, .call 72, [.t 7]⟩,
 ⟨some 5, none, .mov, [.t 8]⟩])
 (.seq (.reg []
 [⟨some 9, none, .mov, [.t 1]⟩,
 ⟨some 10, none, .call 72, [.t 9]⟩,
 ⟨some 6, none, .mov, [.t 10]⟩])
 (.seq (.seq (.reg []
 [⟨some 11, none, .mov, [.t 5]⟩])
 (.cond (.t 11)
 (.seq (.seq (.reg []
 [⟨some 12, none, .mov, [.t 6]⟩])
 (.cond (.t 12)
 (.seq (.reg []
 [⟨some 4, none, .mov, [.c (.int .i64 0)]⟩])
 .ret)
 .skip))
 (.seq (.reg []
 [⟨some 4, none, .mov, [.c (.int .i64 (-1))]⟩])
 .ret))
 .skip))
 (.seq (.seq (.reg []
 [⟨some 13, none, .mov, [.t 6]⟩])
 (.cond (.t 13)
 (.seq (.reg []
 [⟨some 4, none, .mov, [.c (.int .i64 1)]⟩])
 .ret)
 .skip))
 (.seq (.seq (.reg []
 [⟨some 14, none, .mov, [.t 0]⟩,
 ⟨some 15, none, .mov, [.t 1]⟩,
 ⟨some 16, none, .bin .lss .scal, [.t 14, .t 15]⟩])
 (.cond (.t 16)
 (.seq (.reg []
 [⟨some 4, none, .mov, [.c (.int .i64 (-1))]⟩])
 .ret)
 .skip))
 (.seq (.seq (.reg []
 [⟨some 17, none, .mov, [.t 0]⟩,
 ⟨some 18, none, .mov, [.t 1]⟩,
 ⟨some 19, none, .bin .gtr .scal, [.t 17, .t 18]⟩])
 (.cond (.t 19)
 (.seq (.reg []
 [⟨some 4, none, .mov, [.c (.int .i64 1)]⟩])
 .ret)
 .skip))
 (.seq (.reg []
 [⟨some 4, none, .mov, [.c (.int .i64 0)]⟩])
 .ret)))))))
theorem i68 : fnInfo Try.prog 68 = some (20, [.t 4], ac68) := by kernel_rfl
/-- "cmp.isNaN[uint32]": 6 temporaries, 1 parameters, results some [.t 2]. -/
def ac71 : AC :=
 .seq (.reg []
 [⟨some 2, none, .mov, [.c (.bool false)]⟩])
 (.seq (.reg []
 [⟨some 3, none, .mov, [.t 0]⟩,
 ⟨some 4, none, .mov, [.t 0]⟩,
 ⟨some 5, none, .bin .neq .scal, [.t 3, .t 4]⟩,
 ⟨some 2, none, .mov, [.t 5]⟩])
 .ret)
theorem i71 : fnInfo Try.prog 71 = some (6, [.t 2], ac71) := by kernel_rfl
/-- "cmp.isNaN[int]": 6 temporaries, 1 parameters, results some [.t 2]. -/
def ac72 : AC :=
 .seq (.reg []
 [⟨some 2, none, .mov, [.c (.bool false)]⟩])
 (.seq (.reg []
 [⟨some 3, none, .mov, [.t 0]⟩,
 ⟨some 4, none, .mov, [.t 0]⟩,
 ⟨some 5, none, .bin .neq .scal, [.t 3, .t 4]⟩,
 ⟨some 2, none, .mov, [.t 5]⟩])
 .ret)
theorem i72 : fnInfo Try.prog 72 = some (6, [.t 2], ac72) := by kernel_rfl
end Go.Proofs.Ytlemcljcmfphcaa.Abs

/- The functions of the program as the abstract machine's code: each is what the model's code is turned into. -/
import Derived.Test.YtkdhongicibhbaaDoorA20
import Derived.Test.YtkdhongicibhbaaDoorP0
import Derived.Test.YtkdhongicibhbaaDoorProg
import Derived.KernelRfl
namespace Go.Proofs.YtkdhongicibhbaaDoor.Abs
open Go

theorem mixed : Tryd.prog.follows .mixedOrders = true := by kernel_rfl

/-- "crossroads/crossroadslaw03.AddrParse": 42 temporaries, 1 parameters, results some [.t 2]. -/
def ac3 : AC :=
 .seq (.reg []
 [⟨some 2, none, .mov, [.c (.bool false)]⟩])
 (.seq (.seq (.reg []
 [⟨some 7, none, .mov, [.t 0]⟩,
 ⟨some 8, none, .lenS, [.t 7]⟩,
 ⟨some 9, none, .bin .gtr .scal, [.t 8, .c (.int .i64 60)]⟩])
 (.cond (.t 9)
 (.seq (.reg []
 [⟨some 10, none, .call 9, []⟩,
 ⟨some 2, none, .mov, [.t 10]⟩])
 .ret)
 .skip))
 (.seq (.reg []
 [⟨some 12, none, .mov, [.t 0]⟩,
 ⟨some 13, none, .call 10, [.t 12]⟩,
 ⟨some 11, none, .mov, [.t 13]⟩,
 ⟨some 14, none, .ext 0, [.t 11]⟩,
 ⟨some 15, none, .ext 1, [.t 11]⟩,
 ⟨some 3, none, .alloc [.int .u32 0, .int .i64 0], []⟩,
 ⟨none, none, .store 2, [.t 3, .t 14]⟩,
 ⟨some 4, none, .mov, [.t 15]⟩])
 (.seq (.reg []
 [⟨some 17, none, .mov, [.t 0]⟩,
 ⟨some 18, none, .call 11, [.t 17]⟩,
 ⟨some 16, none, .mov, [.t 18]⟩,
 ⟨some 19, none, .ext 0, [.t 16]⟩,
 ⟨some 20, none, .ext 1, [.t 16]⟩,
 ⟨some 5, none, .alloc [.int .u32 0, .int .i64 0], []⟩,
 ⟨none, none, .store 2, [.t 5, .t 19]⟩,
 ⟨some 6, none, .mov, [.t 20]⟩])
 (.seq (.reg []
 [⟨some 21, none, .call 9, []⟩,
 ⟨some 22, none, .mov, [.t 21]⟩,
 ⟨some 23, some (22, true), .load (some 2), [.t 3]⟩,
 ⟨some 24, some (22, true), .load (some 2), [.t 5]⟩,
 ⟨some 25, some (22, true), .bin .eql (.flat [.int .u32, .int .i64]), [.t 23, .t 24]⟩,
 ⟨some 26, none, .pick, [.t 22, .t 25, .c (.bool false)]⟩,
 ⟨some 27, none, .mov, [.t 26]⟩,
 ⟨some 28, some (27, true), .mov, [.t 4]⟩,
 ⟨some 29, some (27, true), .mov, [.t 6]⟩,
 ⟨some 30, some (27, true), .bin .eql .scal, [.t 28, .t 29]⟩,
 ⟨some 31, none, .pick, [.t 27, .t 30, .c (.bool false)]⟩,
 ⟨some 32, none, .mov, [.t 31]⟩,
 ⟨some 33, some (32, true), .mov, [.t 4]⟩,
 ⟨some 34, some (32, true), .bin .neq .scal, [.t 33, .c (.int .i64 0)]⟩,
 ⟨some 35, some (32, true), .mov, [.t 34]⟩,
 ⟨some 36, some (35, false), .load (some 2), [.t 3]⟩,
 ⟨some 37, some (35, false), .call 12, [.t 36]⟩,
 ⟨some 38, some (35, false), .mov, [.t 0]⟩,
 ⟨some 39, some (35, false), .bin .eql .scal, [.t 37, .t 38]⟩,
 ⟨some 40, some (32, true), .pick, [.t 35, .c (.bool true), .t 39]⟩,
 ⟨some 41, none, .pick, [.t 32, .t 40, .c (.bool false)]⟩,
 ⟨some 2, none, .mov, [.t 41]⟩])
 .ret))))
theorem i3 : fnInfo Tryd.prog 3 = some (42, [.t 2], ac3) := by kernel_rfl
/-- "crossroads/crossroadslaw03.alive": 45 temporaries, 0 parameters, results some [.t 0]. -/
def ac9 : AC :=
 .seq (.reg []
 [⟨some 0, none, .mov, [.c (.bool false)]⟩])
 (.seq (.reg []
 [⟨some 8, none, .call 10, [.c (.str (bstr [49, 48, 46, 48, 46, 48, 46, 48, 47, 56]))]⟩,
 ⟨some 7, none, .mov, [.t 8]⟩,
 ⟨some 9, none, .ext 0, [.t 7]⟩,
 ⟨some 10, none, .ext 1, [.t 7]⟩,
 ⟨some 1, none, .alloc [.int .u32 0, .int .i64 0], []⟩,
 ⟨none, none, .store 2, [.t 1, .t 9]⟩,
 ⟨some 2, none, .mov, [.t 10]⟩])
 (.seq (.reg []
 [⟨some 12, none, .call 10, [.c (.str (bstr [49, 48, 46, 49, 46, 48, 46, 48, 47, 49, 54]))]⟩,
 ⟨some 11, none, .mov, [.t 12]⟩,
 ⟨some 13, none, .ext 0, [.t 11]⟩,
 ⟨some 14, none, .ext 1, [.t 11]⟩,
 ⟨some 3, none, .alloc [.int .u32 0, .int .i64 0], []⟩,
 ⟨none, none, .store 2, [.t 3, .t 13]⟩,
 ⟨some 4, none, .mov, [.t 14]⟩])
 (.seq (.reg []
 [⟨some 16, none, .call 10, [.c (.str (bstr [49, 48, 46, 49, 46, 48, 46, 48, 47, 56]))]⟩,
 ⟨some 15, none, .mov, [.t 16]⟩,
 ⟨some 17, none, .ext 0, [.t 15]⟩,
 ⟨some 18, none, .ext 1, [.t 15]⟩,
 ⟨some 5, none, .alloc [.int .u32 0, .int .i64 0], []⟩,
 ⟨none, none, .store 2, [.t 5, .t 17]⟩,
 ⟨some 6, none, .mov, [.t 18]⟩])
 (.seq (.reg []
 [⟨some 19, none, .mov, [.t 2]⟩,
 ⟨some 20, none, .bin .eql .scal, [.t 19, .c (.int .i64 0)]⟩,
 ⟨some 21, none, .mov, [.t 20]⟩,
 ⟨some 22, some (21, true), .mov, [.t 4]⟩,
 ⟨some 23, some (21, true), .bin .eql .scal, [.t 22, .c (.int .i64 0)]⟩,
 ⟨some 24, none, .pick, [.t 21, .t 23, .c (.bool false)]⟩,
 ⟨some 25, none, .mov, [.t 24]⟩,
 ⟨some 26, some (25, true), .mov, [.t 6]⟩,
 ⟨some 27, some (25, true), .bin .eql .scal, [.t 26, .c (.int .i64 1)]⟩,
 ⟨some 28, none, .pick, [.t 25, .t 27, .c (.bool false)]⟩,
 ⟨some 29, none, .mov, [.t 28]⟩,
 ⟨some 30, some (29, true), .load (some 2), [.t 1]⟩,
 ⟨some 31, some (29, true), .load (some 2), [.t 3]⟩,
 ⟨some 32, some (29, true), .call 14, [.t 30, .t 31]⟩,
 ⟨some 33, none, .pick, [.t 29, .t 32, .c (.bool false)]⟩,
 ⟨some 34, none, .mov, [.t 33]⟩,
 ⟨some 35, some (34, true), .load (some 2), [.t 3]⟩,
 ⟨some 36, some (34, true), .load (some 2), [.t 1]⟩,
 ⟨some 37, some (34, true), .call 14, [.t 35, .t 36]⟩,
 ⟨some 38, some (34, true), .unNot, [.t 37]⟩,
 ⟨some 39, none, .pick, [.t 34, .t 38, .c (.bool false)]⟩,
 ⟨some 40, none, .mov, [.t 39]⟩,
 ⟨some 41, some (40, true), .load (some 2), [.t 3]⟩,
 ⟨some 42, some (40, true), .call 12, [.t 41]⟩,
 ⟨some 43, some (40, true), .bin .eql .scal, [.t 42, .c (.str (bstr [49, 48, 46, 49, 46, 48, 46, 48, 47, 49, 54]))]⟩,
 ⟨some 44, none, .pick, [.t 40, .t 43, .c (.bool false)]⟩,
 ⟨some 0, none, .mov, [.t 44]⟩])
 .ret))))
theorem i9 : fnInfo Tryd.prog 9 = some (45, [.t 0], ac9) := by kernel_rfl
def ac10_1 : AC :=
 .seq (.reg []
 [⟨some 45, none, .bin .lss .scal, [.t 44, .t 43]⟩])
 (.seq (.cond (.t 45)
 .skip
 (.exit 0))
 (.seq (.block 1 (.seq (.reg []
 [⟨some 46, none, .idxA 1, [.t 42, .t 44]⟩,
 ⟨some 47, none, .load none, [.t 46]⟩,
 ⟨some 12, none, .mov, [.t 47]⟩])
 (.seq (.reg []
 [⟨some 49, none, .mov, [.t 12]⟩,
 ⟨some 50, none, .call 34, [.t 49, .c (.int .i64 255)]⟩,
 ⟨some 48, none, .mov, [.t 50]⟩,
 ⟨some 51, none, .ext 0, [.t 48]⟩,
 ⟨some 52, none, .ext 1, [.t 48]⟩,
 ⟨some 13, none, .mov, [.t 51]⟩,
 ⟨some 14, none, .mov, [.t 52]⟩])
 (.seq (.seq (.reg []
 [⟨some 53, none, .mov, [.t 14]⟩,
 ⟨some 54, none, .unNot, [.t 53]⟩])
 (.cond (.t 54)
 (.seq (.reg []
 [⟨some 55, none, .build [.int .u32 0, .int .i64 0] [], []⟩,
 ⟨none, none, .store 2, [.t 2, .t 55]⟩,
 ⟨some 3, none, .mov, [.c (.int .i64 3)]⟩])
 .ret)
 .skip))
 (.reg []
 [⟨some 56, none, .fldA 0, [.t 10]⟩,
 ⟨some 57, none, .load none, [.t 56]⟩,
 ⟨some 58, none, .bin .shl .scal, [.t 57, .c (.int .u64 8)]⟩,
 ⟨some 59, none, .mov, [.t 13]⟩,
 ⟨some 60, none, .conv .u32, [.t 59]⟩,
 ⟨some 61, none, .bin .or .scal, [.t 58, .t 60]⟩,
 ⟨some 62, none, .fldA 0, [.t 10]⟩,
 ⟨none, none, .store 1, [.t 62, .t 61]⟩])))))
 (.reg []
 [⟨some 63, none, .bin .add .scal, [.t 44, .c (.int .i64 1)]⟩,
 ⟨some 44, none, .mov, [.t 63]⟩])))
/-- "crossroads/addr.Parse": 69 temporaries, 1 parameters, results some [.c 2 (some 2), .t 3]. -/
def ac10 : AC :=
 .seq (.reg []
 [⟨some 2, none, .alloc [.int .u32 0, .int .i64 0], []⟩,
 ⟨some 3, none, .mov, [.c (.int .i64 0)]⟩])
 (.seq (.reg []
 [⟨some 16, none, .mov, [.t 0]⟩,
 ⟨some 17, none, .call 32, [.t 16, .c (.str (bstr [47]))]⟩,
 ⟨some 15, none, .mov, [.t 17]⟩,
 ⟨some 18, none, .ext 0, [.t 15]⟩,
 ⟨some 19, none, .ext 1, [.t 15]⟩,
 ⟨some 20, none, .ext 2, [.t 15]⟩,
 ⟨some 4, none, .mov, [.t 18]⟩,
 ⟨some 5, none, .mov, [.t 19]⟩,
 ⟨some 6, none, .mov, [.t 20]⟩])
 (.seq (.reg []
 [⟨some 21, none, .mov, [.t 4]⟩,
 ⟨some 22, none, .call 33, [.t 21, .c (.str (bstr [46]))]⟩,
 ⟨some 7, none, .mov, [.t 22]⟩])
 (.seq (.reg []
 [⟨some 24, none, .mov, [.t 5]⟩,
 ⟨some 25, none, .call 34, [.t 24, .c (.int .i64 32)]⟩,
 ⟨some 23, none, .mov, [.t 25]⟩,
 ⟨some 26, none, .ext 0, [.t 23]⟩,
 ⟨some 27, none, .ext 1, [.t 23]⟩,
 ⟨some 8, none, .mov, [.t 26]⟩,
 ⟨some 9, none, .mov, [.t 27]⟩])
 (.seq (.seq (.reg []
 [⟨some 28, none, .mov, [.t 6]⟩,
 ⟨some 29, none, .unNot, [.t 28]⟩,
 ⟨some 30, none, .mov, [.t 29]⟩,
 ⟨some 31, some (30, false), .mov, [.t 9]⟩,
 ⟨some 32, some (30, false), .unNot, [.t 31]⟩,
 ⟨some 33, none, .pick, [.t 30, .c (.bool true), .t 32]⟩,
 ⟨some 34, none, .mov, [.t 33]⟩,
 ⟨some 35, some (34, false), .mov, [.t 7]⟩,
 ⟨some 36, some (34, false), .lenL, [.t 35]⟩,
 ⟨some 37, some (34, false), .bin .neq .scal, [.t 36, .c (.int .i64 4)]⟩,
 ⟨some 38, none, .pick, [.t 34, .c (.bool true), .t 37]⟩])
 (.cond (.t 38)
 (.seq (.reg []
 [⟨some 39, none, .build [.int .u32 0, .int .i64 0] [], []⟩,
 ⟨none, none, .store 2, [.t 2, .t 39]⟩,
 ⟨some 3, none, .mov, [.c (.int .i64 3)]⟩])
 .ret)
 .skip))
 (.seq (.reg []
 [⟨some 40, none, .mov, [.t 8]⟩,
 ⟨some 41, none, .build [.int .u32 0, .int .i64 0] [(1, 1)], [.t 40]⟩,
 ⟨some 10, none, .alloc [.int .u32 0, .int .i64 0], []⟩,
 ⟨none, none, .store 2, [.t 10, .t 41]⟩])
 (.seq (.seq (.reg []
 [⟨some 42, none, .mov, [.t 7]⟩,
 ⟨some 43, none, .lenL, [.t 42]⟩,
 ⟨some 44, none, .mov, [.c (.int .i64 0)]⟩])
 (.block 0 (.loop ac10_1)))
 (.seq (.seq (.reg []
 [⟨some 64, none, .load (some 2), [.t 10]⟩,
 ⟨some 65, none, .call 17, [.t 64]⟩,
 ⟨some 66, none, .unNot, [.t 65]⟩])
 (.cond (.t 66)
 (.seq (.reg []
 [⟨some 67, none, .build [.int .u32 0, .int .i64 0] [], []⟩,
 ⟨none, none, .store 2, [.t 2, .t 67]⟩,
 ⟨some 3, none, .mov, [.c (.int .i64 1)]⟩])
 .ret)
 .skip))
 (.seq (.reg []
 [⟨some 68, none, .load (some 2), [.t 10]⟩,
 ⟨none, none, .store 2, [.t 2, .t 68]⟩,
 ⟨some 3, none, .mov, [.c (.int .i64 0)]⟩])
 .ret))))))))
theorem i10 : fnInfo Tryd.prog 10 = some (69, [.c 2 (some 2), .t 3], ac10) := by kernel_rfl
def ac11_1 : AC :=
 .seq (.seq (.reg []
 [⟨some 12, none, .mov, [.t 5]⟩,
 ⟨some 13, none, .bin .lss .scal, [.t 12, .c (.int .i64 4)]⟩])
 (.cond (.t 13)
 .skip
 (.exit 0)))
 (.seq (.block 1 (.seq (.reg []
 [⟨some 17, none, .mov, [.t 0]⟩,
 ⟨some 18, none, .call 35, [.t 17, .c (.int .i64 255)]⟩,
 ⟨some 16, none, .mov, [.t 18]⟩,
 ⟨some 19, none, .ext 0, [.t 16]⟩,
 ⟨some 20, none, .ext 1, [.t 16]⟩,
 ⟨some 6, none, .mov, [.t 19]⟩,
 ⟨some 7, none, .mov, [.t 20]⟩])
 (.seq (.reg []
 [⟨some 8, none, .mov, [.c (.int .u8 46)]⟩])
 (.seq (.seq (.reg []
 [⟨some 21, none, .mov, [.t 5]⟩,
 ⟨some 22, none, .bin .eql .scal, [.t 21, .c (.int .i64 3)]⟩])
 (.cond (.t 22)
 (.reg []
 [⟨some 8, none, .mov, [.c (.int .u8 47)]⟩])
 .skip))
 (.seq (.seq (.reg []
 [⟨some 23, none, .mov, [.t 7]⟩,
 ⟨some 24, none, .bin .eql .scal, [.t 23, .c (.int .i64 0)]⟩,
 ⟨some 25, none, .mov, [.t 24]⟩,
 ⟨some 26, some (25, false), .mov, [.t 7]⟩,
 ⟨some 27, some (25, false), .mov, [.t 0]⟩,
 ⟨some 28, some (25, false), .lenS, [.t 27]⟩,
 ⟨some 29, some (25, false), .bin .geq .scal, [.t 26, .t 28]⟩,
 ⟨some 30, none, .pick, [.t 25, .c (.bool true), .t 29]⟩,
 ⟨some 31, none, .mov, [.t 30]⟩,
 ⟨some 32, some (31, false), .mov, [.t 0]⟩,
 ⟨some 33, some (31, false), .mov, [.t 7]⟩,
 ⟨some 34, some (31, false), .idxS, [.t 32, .t 33]⟩,
 ⟨some 35, some (31, false), .mov, [.t 8]⟩,
 ⟨some 36, some (31, false), .bin .neq .scal, [.t 34, .t 35]⟩,
 ⟨some 37, none, .pick, [.t 31, .c (.bool true), .t 36]⟩])
 (.cond (.t 37)
 (.seq (.reg []
 [⟨some 38, none, .build [.int .u32 0, .int .i64 0] [], []⟩,
 ⟨none, none, .store 2, [.t 2, .t 38]⟩,
 ⟨some 3, none, .mov, [.c (.int .i64 3)]⟩])
 .ret)
 .skip))
 (.seq (.reg []
 [⟨some 39, none, .mov, [.t 4]⟩,
 ⟨some 40, none, .bin .mul .scal, [.t 39, .c (.int .u32 256)]⟩,
 ⟨some 41, none, .mov, [.t 6]⟩,
 ⟨some 42, none, .conv .u32, [.t 41]⟩,
 ⟨some 43, none, .bin .add .scal, [.t 40, .t 42]⟩,
 ⟨some 4, none, .mov, [.t 43]⟩])
 (.reg []
 [⟨some 44, none, .mov, [.t 0]⟩,
 ⟨some 45, none, .mov, [.t 7]⟩,
 ⟨some 46, none, .bin .add .scal, [.t 45, .c (.int .i64 1)]⟩,
 ⟨some 47, none, .sliceS true false, [.t 44, .t 46]⟩,
 ⟨some 0, none, .mov, [.t 47]⟩])))))))
 (.reg []
 [⟨some 14, none, .mov, [.t 5]⟩,
 ⟨some 15, none, .bin .add .scal, [.t 14, .c (.int .i64 1)]⟩,
 ⟨some 5, none, .mov, [.t 15]⟩]))
/-- "crossroads/crossroadsref03.Parse": 70 temporaries, 1 parameters, results some [.c 2 (some 2), .t 3]. -/
def ac11 : AC :=
 .seq (.reg []
 [⟨some 2, none, .alloc [.int .u32 0, .int .i64 0], []⟩,
 ⟨some 3, none, .mov, [.c (.int .i64 0)]⟩])
 (.seq (.reg []
 [⟨some 4, none, .mov, [.c (.int .u32 0)]⟩])
 (.seq (.seq (.reg []
 [⟨some 5, none, .mov, [.c (.int .i64 0)]⟩])
 (.block 0 (.loop ac11_1)))
 (.seq (.reg []
 [⟨some 49, none, .mov, [.t 0]⟩,
 ⟨some 50, none, .call 35, [.t 49, .c (.int .i64 32)]⟩,
 ⟨some 48, none, .mov, [.t 50]⟩,
 ⟨some 51, none, .ext 0, [.t 48]⟩,
 ⟨some 52, none, .ext 1, [.t 48]⟩,
 ⟨some 9, none, .mov, [.t 51]⟩,
 ⟨some 10, none, .mov, [.t 52]⟩])
 (.seq (.seq (.reg []
 [⟨some 53, none, .mov, [.t 10]⟩,
 ⟨some 54, none, .bin .eql .scal, [.t 53, .c (.int .i64 0)]⟩,
 ⟨some 55, none, .mov, [.t 54]⟩,
 ⟨some 56, some (55, false), .mov, [.t 10]⟩,
 ⟨some 57, some (55, false), .mov, [.t 0]⟩,
 ⟨some 58, some (55, false), .lenS, [.t 57]⟩,
 ⟨some 59, some (55, false), .bin .neq .scal, [.t 56, .t 58]⟩,
 ⟨some 60, none, .pick, [.t 55, .c (.bool true), .t 59]⟩])
 (.cond (.t 60)
 (.seq (.reg []
 [⟨some 61, none, .build [.int .u32 0, .int .i64 0] [], []⟩,
 ⟨none, none, .store 2, [.t 2, .t 61]⟩,
 ⟨some 3, none, .mov, [.c (.int .i64 3)]⟩])
 .ret)
 .skip))
 (.seq (.reg []
 [⟨some 62, none, .mov, [.t 4]⟩,
 ⟨some 63, none, .mov, [.t 9]⟩,
 ⟨some 64, none, .build [.int .u32 0, .int .i64 0] [(0, 1), (1, 1)], [.t 62, .t 63]⟩,
 ⟨some 11, none, .alloc [.int .u32 0, .int .i64 0], []⟩,
 ⟨none, none, .store 2, [.t 11, .t 64]⟩])
 (.seq (.seq (.reg []
 [⟨some 65, none, .load (some 2), [.t 11]⟩,
 ⟨some 66, none, .call 26, [.t 65]⟩,
 ⟨some 67, none, .unNot, [.t 66]⟩])
 (.cond (.t 67)
 (.seq (.reg []
 [⟨some 68, none, .build [.int .u32 0, .int .i64 0] [], []⟩,
 ⟨none, none, .store 2, [.t 2, .t 68]⟩,
 ⟨some 3, none, .mov, [.c (.int .i64 1)]⟩])
 .ret)
 .skip))
 (.seq (.reg []
 [⟨some 69, none, .load (some 2), [.t 11]⟩,
 ⟨none, none, .store 2, [.t 2, .t 69]⟩,
 ⟨some 3, none, .mov, [.c (.int .i64 0)]⟩])
 .ret)))))))
theorem i11 : fnInfo Tryd.prog 11 = some (70, [.c 2 (some 2), .t 3], ac11) := by kernel_rfl
def ac12_1 : AC :=
 .seq (.seq (.reg []
 [⟨some 5, none, .mov, [.t 4]⟩,
 ⟨some 6, none, .bin .geq .scal, [.t 5, .c (.int .i64 0)]⟩])
 (.cond (.t 6)
 .skip
 (.exit 0)))
 (.seq (.block 1 (.reg []
 [⟨some 9, none, .mov, [.t 3]⟩,
 ⟨some 10, none, .fldA 0, [.t 1]⟩,
 ⟨some 11, none, .load none, [.t 10]⟩,
 ⟨some 12, none, .mov, [.t 4]⟩,
 ⟨some 13, none, .bin .shr .scal, [.t 11, .t 12]⟩,
 ⟨some 14, none, .bin .and .scal, [.t 13, .c (.int .u32 255)]⟩,
 ⟨some 15, none, .conv .i64, [.t 14]⟩,
 ⟨some 16, none, .call 36, [.t 15]⟩,
 ⟨some 17, none, .bslice 1 9, [.t 16]⟩,
 ⟨some 18, none, .append 1 9 16, [.t 9, .t 17]⟩,
 ⟨some 3, none, .mov, [.t 18]⟩]))
 (.reg []
 [⟨some 7, none, .mov, [.t 4]⟩,
 ⟨some 8, none, .bin .sub .scal, [.t 7, .c (.int .i64 8)]⟩,
 ⟨some 4, none, .mov, [.t 8]⟩]))
/-- "crossroads/addr.Text": 26 temporaries, 1 parameters, results some [.t 2]. -/
def ac12 : AC :=
 .seq (.reg []
 [⟨some 1, none, .box, [.t 0]⟩,
 ⟨some 2, none, .mov, [.c (.str (bstr []))]⟩])
 (.seq (.reg []
 [⟨some 3, none, .mov, [.c .nils]⟩])
 (.seq (.seq (.reg []
 [⟨some 4, none, .mov, [.c (.int .i64 24)]⟩])
 (.block 0 (.loop ac12_1)))
 (.seq (.reg [[], [0], [1], [], [3], [4, 1], [2, 5], [6, 5, 0, 1, 2, 3, 4, 5, 6]]
 [⟨some 19, none, .mov, [.t 3]⟩,
 ⟨some 20, none, .call 37, [.t 19, .c (.str (bstr [46]))]⟩,
 ⟨some 21, none, .bin .add .scal, [.t 20, .c (.str (bstr [47]))]⟩,
 ⟨some 22, none, .fldA 1, [.t 1]⟩,
 ⟨some 23, none, .load none, [.t 22]⟩,
 ⟨some 24, none, .call 36, [.t 23]⟩,
 ⟨some 25, none, .bin .add .scal, [.t 21, .t 24]⟩,
 ⟨some 2, none, .mov, [.t 25]⟩])
 .ret)))
theorem i12 : fnInfo Tryd.prog 12 = some (26, [.t 2], ac12) := by kernel_rfl
/-- "crossroads/addr.Covers": 20 temporaries, 2 parameters, results some [.t 4]. -/
def ac14 : AC :=
 .seq (.reg []
 [⟨some 2, none, .box, [.t 0]⟩,
 ⟨some 3, none, .box, [.t 1]⟩,
 ⟨some 4, none, .mov, [.c (.bool false)]⟩])
 (.seq (.reg []
 [⟨some 5, none, .load (some 2), [.t 3]⟩,
 ⟨some 6, none, .call 17, [.t 5]⟩,
 ⟨some 7, none, .mov, [.t 6]⟩,
 ⟨some 8, some (7, true), .fldA 1, [.t 2]⟩,
 ⟨some 9, some (7, true), .load none, [.t 8]⟩,
 ⟨some 10, some (7, true), .fldA 1, [.t 3]⟩,
 ⟨some 11, some (7, true), .load none, [.t 10]⟩,
 ⟨some 12, some (7, true), .bin .leq .scal, [.t 9, .t 11]⟩,
 ⟨some 13, none, .pick, [.t 7, .t 12, .c (.bool false)]⟩,
 ⟨some 14, none, .mov, [.t 13]⟩,
 ⟨some 15, some (14, true), .load (some 2), [.t 2]⟩,
 ⟨some 16, some (14, true), .fldA 0, [.t 3]⟩,
 ⟨some 17, some (14, true), .load none, [.t 16]⟩,
 ⟨some 18, some (14, true), .call 22, [.t 15, .t 17]⟩,
 ⟨some 19, none, .pick, [.t 14, .t 18, .c (.bool false)]⟩,
 ⟨some 4, none, .mov, [.t 19]⟩])
 .ret)
theorem i14 : fnInfo Tryd.prog 14 = some (20, [.t 4], ac14) := by kernel_rfl
/-- "crossroads/addr.Mask": 10 temporaries, 1 parameters, results some [.t 2]. -/
def ac16 : AC :=
 .seq (.reg []
 [⟨some 2, none, .mov, [.c (.int .u32 0)]⟩])
 (.seq (.reg []
 [⟨some 3, none, .mov, [.t 0]⟩,
 ⟨some 4, none, .minmax true, [.t 3, .c (.int .i64 0)]⟩,
 ⟨some 5, none, .minmax false, [.t 4, .c (.int .i64 32)]⟩,
 ⟨some 0, none, .mov, [.t 5]⟩])
 (.seq (.reg []
 [⟨some 6, none, .mov, [.t 0]⟩,
 ⟨some 7, none, .bin .sub .scal, [.c (.int .i64 32), .t 6]⟩,
 ⟨some 8, none, .bin .shl .scal, [.c (.int .u64 4294967295), .t 7]⟩,
 ⟨some 9, none, .conv .u32, [.t 8]⟩,
 ⟨some 2, none, .mov, [.t 9]⟩])
 .ret))
theorem i16 : fnInfo Tryd.prog 16 = some (10, [.t 2], ac16) := by kernel_rfl
/-- "crossroads/addr.May": 15 temporaries, 1 parameters, results some [.t 2]. -/
def ac17 : AC :=
 .seq (.reg []
 [⟨some 1, none, .box, [.t 0]⟩,
 ⟨some 2, none, .mov, [.c (.bool false)]⟩])
 (.seq (.reg [[], [0], [1], [2, 2], [3], [4, 3], [3], [6, 3], [7, 3, 3], [5, 8, 3], [9, 3], [3, 10], [11, 8, 0, 1, 2, 3, 4, 5, 6, 7, 8, 9, 10, 11]]
 [⟨some 3, none, .fldA 1, [.t 1]⟩,
 ⟨some 4, none, .load none, [.t 3]⟩,
 ⟨some 5, none, .call 39, [.t 4]⟩,
 ⟨some 6, none, .mov, [.t 5]⟩,
 ⟨some 7, some (6, true), .fldA 0, [.t 1]⟩,
 ⟨some 8, some (6, true), .load none, [.t 7]⟩,
 ⟨some 9, some (6, true), .fldA 1, [.t 1]⟩,
 ⟨some 10, some (6, true), .load none, [.t 9]⟩,
 ⟨some 11, some (6, true), .call 16, [.t 10]⟩,
 ⟨some 12, some (6, true), .bin .andNot .scal, [.t 8, .t 11]⟩,
 ⟨some 13, some (6, true), .bin .eql .scal, [.t 12, .c (.int .u32 0)]⟩,
 ⟨some 14, none, .pick, [.t 6, .t 13, .c (.bool false)]⟩,
 ⟨some 2, none, .mov, [.t 14]⟩])
 .ret)
theorem i17 : fnInfo Tryd.prog 17 = some (15, [.t 2], ac17) := by kernel_rfl
/-- "crossroads/addr.Has": 17 temporaries, 2 parameters, results some [.t 4]. -/
def ac22 : AC :=
 .seq (.reg []
 [⟨some 2, none, .box, [.t 0]⟩,
 ⟨some 4, none, .mov, [.c (.bool false)]⟩])
 (.seq (.reg [[], [0], [1, 1], [2], [2], [4, 2], [5, 2, 2], [3, 6, 2], [2], [8, 2], [7, 9, 2], [2, 10], [11, 6, 0, 1, 2, 3, 4, 5, 6, 7, 8, 9, 10, 11]]
 [⟨some 5, none, .load (some 2), [.t 2]⟩,
 ⟨some 6, none, .call 17, [.t 5]⟩,
 ⟨some 7, none, .mov, [.t 6]⟩,
 ⟨some 8, some (7, true), .mov, [.t 1]⟩,
 ⟨some 9, some (7, true), .fldA 1, [.t 2]⟩,
 ⟨some 10, some (7, true), .load none, [.t 9]⟩,
 ⟨some 11, some (7, true), .call 16, [.t 10]⟩,
 ⟨some 12, some (7, true), .bin .and .scal, [.t 8, .t 11]⟩,
 ⟨some 13, some (7, true), .fldA 0, [.t 2]⟩,
 ⟨some 14, some (7, true), .load none, [.t 13]⟩,
 ⟨some 15, some (7, true), .bin .eql .scal, [.t 12, .t 14]⟩,
 ⟨some 16, none, .pick, [.t 7, .t 15, .c (.bool false)]⟩,
 ⟨some 4, none, .mov, [.t 16]⟩])
 .ret)
theorem i22 : fnInfo Tryd.prog 22 = some (17, [.t 4], ac22) := by kernel_rfl
def ac26_1 : AC :=
 .seq (.seq (.reg []
 [⟨some 14, none, .mov, [.t 3]⟩,
 ⟨some 15, none, .bin .lss .scal, [.t 14, .c (.int .i64 32)]⟩])
 (.cond (.t 15)
 .skip
 (.exit 0)))
 (.seq (.block 1 (.seq (.reg []
 [⟨some 18, none, .fldA 0, [.t 1]⟩,
 ⟨some 19, none, .load none, [.t 18]⟩,
 ⟨some 20, none, .mov, [.t 3]⟩,
 ⟨some 21, none, .call 29, [.t 19, .t 20]⟩,
 ⟨some 22, none, .bin .eql .scal, [.t 21, .c (.int .i64 1)]⟩])
 (.cond (.t 22)
 (.seq (.reg []
 [⟨some 2, none, .mov, [.c (.bool false)]⟩])
 .ret)
 .skip)))
 (.reg []
 [⟨some 16, none, .mov, [.t 3]⟩,
 ⟨some 17, none, .bin .add .scal, [.t 16, .c (.int .i64 1)]⟩,
 ⟨some 3, none, .mov, [.t 17]⟩]))
/-- "crossroads/crossroadsref03.May": 23 temporaries, 1 parameters, results some [.t 2]. -/
def ac26 : AC :=
 .seq (.reg []
 [⟨some 1, none, .box, [.t 0]⟩,
 ⟨some 2, none, .mov, [.c (.bool false)]⟩])
 (.seq (.seq (.reg []
 [⟨some 4, none, .fldA 1, [.t 1]⟩,
 ⟨some 5, none, .load none, [.t 4]⟩,
 ⟨some 6, none, .bin .lss .scal, [.t 5, .c (.int .i64 0)]⟩,
 ⟨some 7, none, .mov, [.t 6]⟩,
 ⟨some 8, some (7, false), .fldA 1, [.t 1]⟩,
 ⟨some 9, some (7, false), .load none, [.t 8]⟩,
 ⟨some 10, some (7, false), .bin .gtr .scal, [.t 9, .c (.int .i64 32)]⟩,
 ⟨some 11, none, .pick, [.t 7, .c (.bool true), .t 10]⟩])
 (.cond (.t 11)
 (.seq (.reg []
 [⟨some 2, none, .mov, [.c (.bool false)]⟩])
 .ret)
 .skip))
 (.seq (.seq (.reg []
 [⟨some 12, none, .fldA 1, [.t 1]⟩,
 ⟨some 13, none, .load none, [.t 12]⟩,
 ⟨some 3, none, .mov, [.t 13]⟩])
 (.block 0 (.loop ac26_1)))
 (.seq (.reg []
 [⟨some 2, none, .mov, [.c (.bool true)]⟩])
 .ret)))
theorem i26 : fnInfo Tryd.prog 26 = some (23, [.t 2], ac26) := by kernel_rfl
/-- "crossroads/crossroadsref03.Bit": 18 temporaries, 2 parameters, results some [.t 4]. -/
def ac29 : AC :=
 .seq (.reg []
 [⟨some 4, none, .mov, [.c (.int .i64 0)]⟩])
 (.seq (.seq (.reg []
 [⟨some 5, none, .mov, [.t 1]⟩,
 ⟨some 6, none, .bin .lss .scal, [.t 5, .c (.int .i64 0)]⟩,
 ⟨some 7, none, .mov, [.t 6]⟩,
 ⟨some 8, some (7, false), .mov, [.t 1]⟩,
 ⟨some 9, some (7, false), .bin .gtr .scal, [.t 8, .c (.int .i64 31)]⟩,
 ⟨some 10, none, .pick, [.t 7, .c (.bool true), .t 9]⟩])
 (.cond (.t 10)
 (.seq (.reg []
 [⟨some 4, none, .mov, [.c (.int .i64 0)]⟩])
 .ret)
 .skip))
 (.seq (.reg []
 [⟨some 11, none, .mov, [.t 0]⟩,
 ⟨some 12, none, .mov, [.t 1]⟩,
 ⟨some 13, none, .bin .sub .scal, [.c (.int .i64 31), .t 12]⟩,
 ⟨some 14, none, .conv .u64, [.t 13]⟩,
 ⟨some 15, none, .bin .shr .scal, [.t 11, .t 14]⟩,
 ⟨some 16, none, .bin .and .scal, [.t 15, .c (.int .u32 1)]⟩,
 ⟨some 17, none, .conv .i64, [.t 16]⟩,
 ⟨some 4, none, .mov, [.t 17]⟩])
 .ret))
theorem i29 : fnInfo Tryd.prog 29 = some (18, [.t 4], ac29) := by kernel_rfl
/-- "crossroads/addr.number": 40 temporaries, 2 parameters, results some [.t 4, .t 5]. -/
def ac34 : AC :=
 .seq (.reg []
 [⟨some 4, none, .mov, [.c (.int .i64 0)]⟩,
 ⟨some 5, none, .mov, [.c (.bool false)]⟩])
 (.seq (.reg []
 [⟨some 6, none, .mov, [.f 43]⟩])
 (.seq (.seq (.reg []
 [⟨some 9, none, .mov, [.t 0]⟩,
 ⟨some 10, none, .bin .eql .scal, [.t 9, .c (.str (bstr []))]⟩,
 ⟨some 11, none, .mov, [.t 10]⟩,
 ⟨some 12, some (11, false), .mov, [.t 0]⟩,
 ⟨some 13, some (11, false), .lenS, [.t 12]⟩,
 ⟨some 14, some (11, false), .bin .gtr .scal, [.t 13, .c (.int .i64 3)]⟩,
 ⟨some 15, none, .pick, [.t 11, .c (.bool true), .t 14]⟩,
 ⟨some 16, none, .mov, [.t 15]⟩,
 ⟨some 17, some (16, false), .mov, [.t 0]⟩,
 ⟨some 18, some (16, false), .lenS, [.t 17]⟩,
 ⟨some 19, some (16, false), .bin .gtr .scal, [.t 18, .c (.int .i64 1)]⟩,
 ⟨some 20, some (16, false), .mov, [.t 19]⟩,
 ⟨some 21, some (20, true), .mov, [.t 0]⟩,
 ⟨some 22, some (20, true), .idxS, [.t 21, .c (.int .i64 0)]⟩,
 ⟨some 23, some (20, true), .bin .eql .scal, [.t 22, .c (.int .u8 48)]⟩,
 ⟨some 24, some (16, false), .pick, [.t 20, .t 23, .c (.bool false)]⟩,
 ⟨some 25, none, .pick, [.t 16, .c (.bool true), .t 24]⟩,
 ⟨some 26, none, .mov, [.t 25]⟩,
 ⟨some 27, some (26, false), .mov, [.t 0]⟩,
 ⟨some 28, some (26, false), .mov, [.t 6]⟩,
 ⟨some 29, some (26, false), .call 44, [.t 27, .t 28]⟩,
 ⟨some 30, none, .pick, [.t 26, .c (.bool true), .t 29]⟩])
 (.cond (.t 30)
 (.seq (.reg []
 [⟨some 4, none, .mov, [.c (.int .i64 0)]⟩,
 ⟨some 5, none, .mov, [.c (.bool false)]⟩])
 .ret)
 .skip))
 (.seq (.reg []
 [⟨some 32, none, .mov, [.t 0]⟩,
 ⟨some 33, none, .call 45, [.t 32]⟩,
 ⟨some 31, none, .mov, [.t 33]⟩,
 ⟨some 34, none, .ext 0, [.t 31]⟩,
 ⟨some 35, none, .ext 1, [.t 31]⟩,
 ⟨some 7, none, .mov, [.t 34]⟩,
 ⟨some 8, none, .mov, [.t 35]⟩])
 (.seq (.reg []
 [⟨some 36, none, .mov, [.t 7]⟩,
 ⟨some 37, none, .mov, [.t 7]⟩,
 ⟨some 38, none, .mov, [.t 1]⟩,
 ⟨some 39, none, .bin .leq .scal, [.t 37, .t 38]⟩,
 ⟨some 4, none, .mov, [.t 36]⟩,
 ⟨some 5, none, .mov, [.t 39]⟩])
 .ret))))
theorem i34 : fnInfo Tryd.prog 34 = some (40, [.t 4, .t 5], ac34) := by kernel_rfl
def ac35_1 : AC :=
 .seq (.seq (.reg []
 [⟨some 8, none, .mov, [.t 7]⟩,
 ⟨some 9, none, .mov, [.t 0]⟩,
 ⟨some 10, none, .lenS, [.t 9]⟩,
 ⟨some 11, none, .bin .lss .scal, [.t 8, .t 10]⟩,
 ⟨some 12, none, .mov, [.t 11]⟩,
 ⟨some 13, some (12, true), .mov, [.t 0]⟩,
 ⟨some 14, some (12, true), .mov, [.t 7]⟩,
 ⟨some 15, some (12, true), .idxS, [.t 13, .t 14]⟩,
 ⟨some 16, some (12, true), .bin .geq .scal, [.t 15, .c (.int .u8 48)]⟩,
 ⟨some 17, none, .pick, [.t 12, .t 16, .c (.bool false)]⟩,
 ⟨some 18, none, .mov, [.t 17]⟩,
 ⟨some 19, some (18, true), .mov, [.t 0]⟩,
 ⟨some 20, some (18, true), .mov, [.t 7]⟩,
 ⟨some 21, some (18, true), .idxS, [.t 19, .t 20]⟩,
 ⟨some 22, some (18, true), .bin .leq .scal, [.t 21, .c (.int .u8 57)]⟩,
 ⟨some 23, none, .pick, [.t 18, .t 22, .c (.bool false)]⟩,
 ⟨some 24, none, .mov, [.t 23]⟩,
 ⟨some 25, some (24, true), .mov, [.t 7]⟩,
 ⟨some 26, some (24, true), .bin .lss .scal, [.t 25, .c (.int .i64 4)]⟩,
 ⟨some 27, none, .pick, [.t 24, .t 26, .c (.bool false)]⟩])
 (.cond (.t 27)
 .skip
 (.exit 0)))
 (.block 1 (.seq (.reg []
 [⟨some 28, none, .mov, [.t 6]⟩,
 ⟨some 29, none, .bin .mul .scal, [.t 28, .c (.int .i64 10)]⟩,
 ⟨some 30, none, .mov, [.t 0]⟩,
 ⟨some 31, none, .mov, [.t 7]⟩,
 ⟨some 32, none, .idxS, [.t 30, .t 31]⟩,
 ⟨some 33, none, .bin .sub .scal, [.t 32, .c (.int .u8 48)]⟩,
 ⟨some 34, none, .conv .i64, [.t 33]⟩,
 ⟨some 35, none, .bin .add .scal, [.t 29, .t 34]⟩,
 ⟨some 6, none, .mov, [.t 35]⟩])
 (.reg []
 [⟨some 36, none, .mov, [.t 7]⟩,
 ⟨some 37, none, .bin .add .scal, [.t 36, .c (.int .i64 1)]⟩,
 ⟨some 7, none, .mov, [.t 37]⟩])))
/-- "crossroads/crossroadsref03.number": 56 temporaries, 2 parameters, results some [.t 4, .t 5]. -/
def ac35 : AC :=
 .seq (.reg []
 [⟨some 4, none, .mov, [.c (.int .i64 0)]⟩,
 ⟨some 5, none, .mov, [.c (.int .i64 0)]⟩])
 (.seq (.reg []
 [⟨some 6, none, .mov, [.c (.int .i64 0)]⟩,
 ⟨some 7, none, .mov, [.c (.int .i64 0)]⟩])
 (.seq (.block 0 (.loop ac35_1))
 (.seq (.seq (.reg []
 [⟨some 38, none, .mov, [.t 7]⟩,
 ⟨some 39, none, .bin .eql .scal, [.t 38, .c (.int .i64 0)]⟩,
 ⟨some 40, none, .mov, [.t 39]⟩,
 ⟨some 41, some (40, false), .mov, [.t 7]⟩,
 ⟨some 42, some (40, false), .bin .gtr .scal, [.t 41, .c (.int .i64 1)]⟩,
 ⟨some 43, some (40, false), .mov, [.t 42]⟩,
 ⟨some 44, some (43, true), .mov, [.t 0]⟩,
 ⟨some 45, some (43, true), .idxS, [.t 44, .c (.int .i64 0)]⟩,
 ⟨some 46, some (43, true), .bin .eql .scal, [.t 45, .c (.int .u8 48)]⟩,
 ⟨some 47, some (40, false), .pick, [.t 43, .t 46, .c (.bool false)]⟩,
 ⟨some 48, none, .pick, [.t 40, .c (.bool true), .t 47]⟩,
 ⟨some 49, none, .mov, [.t 48]⟩,
 ⟨some 50, some (49, false), .mov, [.t 6]⟩,
 ⟨some 51, some (49, false), .mov, [.t 1]⟩,
 ⟨some 52, some (49, false), .bin .gtr .scal, [.t 50, .t 51]⟩,
 ⟨some 53, none, .pick, [.t 49, .c (.bool true), .t 52]⟩])
 (.cond (.t 53)
 (.seq (.reg []
 [⟨some 4, none, .mov, [.c (.int .i64 0)]⟩,
 ⟨some 5, none, .mov, [.c (.int .i64 0)]⟩])
 .ret)
 .skip))
 (.seq (.reg []
 [⟨some 54, none, .mov, [.t 6]⟩,
 ⟨some 55, none, .mov, [.t 7]⟩,
 ⟨some 4, none, .mov, [.t 54]⟩,
 ⟨some 5, none, .mov, [.t 55]⟩])
 .ret))))
theorem i35 : fnInfo Tryd.prog 35 = some (56, [.t 4, .t 5], ac35) := by kernel_rfl
/-- "crossroads/addr.isLong": 9 temporaries, 1 parameters, results some [.t 2]. -/
def ac39 : AC :=
 .seq (.reg []
 [⟨some 2, none, .mov, [.c (.bool false)]⟩])
 (.seq (.reg []
 [⟨some 3, none, .mov, [.t 0]⟩,
 ⟨some 4, none, .bin .geq .scal, [.t 3, .c (.int .i64 0)]⟩,
 ⟨some 5, none, .mov, [.t 4]⟩,
 ⟨some 6, some (5, true), .mov, [.t 0]⟩,
 ⟨some 7, some (5, true), .bin .leq .scal, [.t 6, .c (.int .i64 32)]⟩,
 ⟨some 8, none, .pick, [.t 5, .t 7, .c (.bool false)]⟩,
 ⟨some 2, none, .mov, [.t 8]⟩])
 .ret)
theorem i39 : fnInfo Tryd.prog 39 = some (9, [.t 2], ac39) := by kernel_rfl
/-- "crossroads/addr.number$1": 9 temporaries, 1 parameters, results some [.t 2]. -/
def ac43 : AC :=
 .seq (.reg []
 [⟨some 2, none, .mov, [.c (.bool false)]⟩])
 (.seq (.reg []
 [⟨some 3, none, .mov, [.t 0]⟩,
 ⟨some 4, none, .bin .lss .scal, [.t 3, .c (.int .i32 48)]⟩,
 ⟨some 5, none, .mov, [.t 4]⟩,
 ⟨some 6, some (5, false), .mov, [.t 0]⟩,
 ⟨some 7, some (5, false), .bin .gtr .scal, [.t 6, .c (.int .i32 57)]⟩,
 ⟨some 8, none, .pick, [.t 5, .c (.bool true), .t 7]⟩,
 ⟨some 2, none, .mov, [.t 8]⟩])
 .ret)
theorem i43 : fnInfo Tryd.prog 43 = some (9, [.t 2], ac43) := by kernel_rfl
end Go.Proofs.YtkdhongicibhbaaDoor.Abs

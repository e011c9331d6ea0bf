/- The functions of the program as the abstract machine's code: each is what the model's code is turned into. -/
import Derived.Test.YtpcpclbdajebjaaA20
import Derived.Test.YtpcpclbdajebjaaProg
import Derived.KernelRfl
namespace Go.Proofs.Ytpcpclbdajebjaa.Abs
open Go

theorem mixed : Try.prog.follows .mixedOrders = true := by kernel_rfl

def ac7_1 : AC :=
 .seq (.seq (.reg []
 [⟨some 73, none, .mov, [.t 8]⟩,
 ⟨some 74, none, .bin .eql .scal, [.t 73, .c (.int .i64 0)]⟩,
 ⟨some 75, none, .mov, [.t 74]⟩,
 ⟨some 76, some (75, true), .mov, [.t 11]⟩,
 ⟨some 77, some (75, true), .mov, [.t 1]⟩,
 ⟨some 78, some (75, true), .lenL, [.t 77]⟩,
 ⟨some 79, some (75, true), .bin .lss .scal, [.t 76, .t 78]⟩,
 ⟨some 80, none, .pick, [.t 75, .t 79, .c (.bool false)]⟩,
 ⟨some 81, none, .mov, [.t 80]⟩,
 ⟨some 82, some (81, true), .mov, [.t 11]⟩,
 ⟨some 83, some (81, true), .bin .lss .scal, [.t 82, .c (.int .i64 60)]⟩,
 ⟨some 84, none, .pick, [.t 81, .t 83, .c (.bool false)]⟩])
 (.cond (.t 84)
 .skip
 (.exit 0)))
 (.seq (.block 1 (.seq (.reg []
 [⟨some 87, none, .mov, [.t 1]⟩,
 ⟨some 88, none, .mov, [.t 11]⟩,
 ⟨some 89, none, .idxA 9, [.t 87, .t 88]⟩,
 ⟨some 90, none, .load (some 9), [.t 89]⟩,
 ⟨some 12, none, .alloc [.bool false, .int .i64 0, .int .i64 0, .int .i64 0, .int .u64 0, .int .u32 0, .int .i64 0, .int .i64 0, .nils], []⟩,
 ⟨none, none, .store 9, [.t 12, .t 90]⟩])
 (.seq (.seq (.reg []
 [⟨some 91, none, .fldA 2, [.t 12]⟩,
 ⟨some 92, none, .load (some 7), [.t 91]⟩,
 ⟨some 93, none, .call 12, [.t 92]⟩,
 ⟨some 94, none, .unNot, [.t 93]⟩])
 (.cond (.t 94)
 (.exit 1)
 .skip))
 (.seq (.reg [[], [], [], [], [2, 0, 0, 2, 3], [3, 1, 4, 0, 1, 2, 3, 4]]
 [⟨some 95, none, .load (some 4), [.t 7]⟩,
 ⟨some 96, none, .load (some 4), [.t 9]⟩,
 ⟨some 13, none, .alloc [.int .i64 0, .int .i64 0, .nils, .bool false], []⟩,
 ⟨some 14, none, .alloc [.int .i64 0, .int .i64 0, .nils, .bool false], []⟩,
 ⟨none, none, .store 4, [.t 13, .t 95]⟩,
 ⟨none, none, .store 4, [.t 14, .t 96]⟩])
 (.seq (.seq (.reg []
 [⟨some 97, none, .fldA 0, [.t 12]⟩,
 ⟨some 98, none, .load none, [.t 97]⟩])
 (.cond (.t 98)
 (.seq (.reg []
 [⟨some 100, none, .load (some 4), [.t 7]⟩,
 ⟨some 101, none, .fldA 1, [.t 12]⟩,
 ⟨some 102, none, .load none, [.t 101]⟩,
 ⟨some 103, none, .call 26, [.t 100, .t 102]⟩,
 ⟨some 99, none, .mov, [.t 103]⟩,
 ⟨some 104, none, .ext 0, [.t 99]⟩,
 ⟨some 105, none, .ext 1, [.t 99]⟩,
 ⟨some 15, none, .alloc [.int .i64 0, .int .i64 0, .nils, .bool false], []⟩,
 ⟨none, none, .store 4, [.t 15, .t 104]⟩,
 ⟨some 16, none, .mov, [.t 105]⟩])
 (.seq (.reg []
 [⟨some 107, none, .load (some 4), [.t 9]⟩,
 ⟨some 108, none, .fldA 1, [.t 12]⟩,
 ⟨some 109, none, .load none, [.t 108]⟩,
 ⟨some 110, none, .call 27, [.t 107, .t 109]⟩,
 ⟨some 106, none, .mov, [.t 110]⟩,
 ⟨some 111, none, .ext 0, [.t 106]⟩,
 ⟨some 112, none, .ext 1, [.t 106]⟩,
 ⟨some 17, none, .alloc [.int .i64 0, .int .i64 0, .nils, .bool false], []⟩,
 ⟨none, none, .store 4, [.t 17, .t 111]⟩,
 ⟨some 18, none, .mov, [.t 112]⟩])
 (.seq (.seq (.reg []
 [⟨some 113, none, .mov, [.t 16]⟩,
 ⟨some 114, none, .mov, [.t 18]⟩,
 ⟨some 115, none, .call 28, [.t 113, .t 114]⟩,
 ⟨some 116, none, .unNot, [.t 115]⟩])
 (.cond (.t 116)
 (.seq (.reg []
 [⟨some 6, none, .mov, [.c (.bool false)]⟩])
 .ret)
 .skip))
 (.seq (.reg []
 [⟨some 117, none, .load (some 4), [.t 15]⟩,
 ⟨none, none, .store 4, [.t 7, .t 117]⟩])
 (.reg []
 [⟨some 118, none, .load (some 4), [.t 17]⟩,
 ⟨none, none, .store 4, [.t 9, .t 118]⟩])))))
 (.seq (.reg []
 [⟨some 120, none, .load (some 4), [.t 7]⟩,
 ⟨some 121, none, .fldA 2, [.t 12]⟩,
 ⟨some 122, none, .load (some 7), [.t 121]⟩,
 ⟨some 123, none, .call 21, [.t 120, .t 122]⟩,
 ⟨some 119, none, .mov, [.t 123]⟩,
 ⟨some 124, none, .ext 0, [.t 119]⟩,
 ⟨some 125, none, .ext 1, [.t 119]⟩,
 ⟨some 126, none, .ext 2, [.t 119]⟩,
 ⟨some 19, none, .alloc [.int .i64 0, .int .i64 0, .nils, .bool false], []⟩,
 ⟨none, none, .store 4, [.t 19, .t 124]⟩,
 ⟨some 20, none, .mov, [.t 125]⟩,
 ⟨some 21, none, .mov, [.t 126]⟩])
 (.seq (.reg [[], [], [1], [2], [0, 3, 3], [4], [5], [5], [5], [], [9, 6, 4, 0, 1, 2, 3, 4, 5, 6, 9], [7, 10, 0, 1, 2, 3, 4, 5, 6, 7, 9, 10], [8, 11, 0, 1, 2, 3, 4, 5, 6, 7, 8, 9, 10, 11]]
 [⟨some 128, none, .load (some 4), [.t 9]⟩,
 ⟨some 129, none, .fldA 2, [.t 12]⟩,
 ⟨some 130, none, .load (some 7), [.t 129]⟩,
 ⟨some 131, none, .call 30, [.t 130]⟩,
 ⟨some 132, none, .call 29, [.t 128, .t 131]⟩,
 ⟨some 127, none, .mov, [.t 132]⟩,
 ⟨some 133, none, .ext 0, [.t 127]⟩,
 ⟨some 134, none, .ext 1, [.t 127]⟩,
 ⟨some 135, none, .ext 2, [.t 127]⟩,
 ⟨some 22, none, .alloc [.int .i64 0, .int .i64 0, .nils, .bool false], []⟩,
 ⟨none, none, .store 4, [.t 22, .t 133]⟩,
 ⟨some 23, none, .mov, [.t 134]⟩,
 ⟨some 24, none, .mov, [.t 135]⟩])
 (.seq (.seq (.reg []
 [⟨some 136, none, .mov, [.t 20]⟩,
 ⟨some 137, none, .mov, [.t 23]⟩,
 ⟨some 138, none, .bin .neq .scal, [.t 136, .t 137]⟩,
 ⟨some 139, none, .mov, [.t 138]⟩,
 ⟨some 140, some (139, false), .mov, [.t 21]⟩,
 ⟨some 141, some (139, false), .mov, [.t 24]⟩,
 ⟨some 142, some (139, false), .bin .neq .scal, [.t 140, .t 141]⟩,
 ⟨some 143, none, .pick, [.t 139, .c (.bool true), .t 142]⟩])
 (.cond (.t 143)
 (.seq (.reg []
 [⟨some 6, none, .mov, [.c (.bool false)]⟩])
 .ret)
 .skip))
 (.seq (.reg []
 [⟨some 144, none, .load (some 4), [.t 19]⟩,
 ⟨none, none, .store 4, [.t 7, .t 144]⟩])
 (.reg []
 [⟨some 145, none, .load (some 4), [.t 22]⟩,
 ⟨none, none, .store 4, [.t 9, .t 145]⟩])))))))
 (.seq (.reg []
 [⟨some 147, none, .load (some 4), [.t 7]⟩,
 ⟨some 148, none, .load (some 6), [.t 5]⟩,
 ⟨some 149, none, .call 18, [.t 147, .t 148]⟩,
 ⟨some 146, none, .mov, [.t 149]⟩,
 ⟨some 150, none, .ext 0, [.t 146]⟩,
 ⟨some 151, none, .ext 1, [.t 146]⟩,
 ⟨some 25, none, .mov, [.t 150]⟩,
 ⟨some 26, none, .mov, [.t 151]⟩])
 (.seq (.reg [[], [], [1], [0, 2, 2], [3], [4], [4], [5, 3, 0, 1, 2, 3, 4, 5], [6, 7, 0, 1, 2, 3, 4, 5, 6, 7]]
 [⟨some 153, none, .load (some 4), [.t 9]⟩,
 ⟨some 154, none, .load (some 6), [.t 5]⟩,
 ⟨some 155, none, .call 32, [.t 154]⟩,
 ⟨some 156, none, .call 31, [.t 153, .t 155]⟩,
 ⟨some 152, none, .mov, [.t 156]⟩,
 ⟨some 157, none, .ext 0, [.t 152]⟩,
 ⟨some 158, none, .ext 1, [.t 152]⟩,
 ⟨some 27, none, .mov, [.t 157]⟩,
 ⟨some 28, none, .mov, [.t 158]⟩])
 (.seq (.reg [[], [0], [], [1, 2, 1], [3], [4, 3], [5], [6, 5, 5], [5], [7, 8, 7, 5], [9, 5], [5, 10], [11, 9], [12], [12], [13, 14, 12, 12], [15, 12], [12, 16], [17, 15], [18], [19, 18, 18], [18], [20, 21, 20, 18], [22, 18], [18, 23], [24, 22], [25], [25], [27, 25], [25], [29, 25], [26, 28, 30, 25, 25], [31, 31, 25], [25], [25], [34, 25], [25], [36, 25], [33, 35, 37, 32, 25], [32, 38, 38, 25], [39, 25], [25, 40], [41, 39], [42], [43, 42, 42], [44, 42], [42, 45]]
 [⟨some 159, none, .load (some 4), [.t 7]⟩,
 ⟨some 160, none, .call 23, [.t 159]⟩,
 ⟨some 161, none, .load (some 4), [.t 9]⟩,
 ⟨some 162, none, .call 22, [.t 160, .t 161]⟩,
 ⟨some 163, none, .unNot, [.t 162]⟩,
 ⟨some 164, none, .mov, [.t 163]⟩,
 ⟨some 165, some (164, false), .load (some 4), [.t 13]⟩,
 ⟨some 166, some (164, false), .call 23, [.t 165]⟩,
 ⟨some 167, some (164, false), .load (some 4), [.t 14]⟩,
 ⟨some 168, some (164, false), .call 22, [.t 166, .t 167]⟩,
 ⟨some 169, some (164, false), .unNot, [.t 168]⟩,
 ⟨some 170, none, .pick, [.t 164, .c (.bool true), .t 169]⟩,
 ⟨some 171, none, .mov, [.t 170]⟩,
 ⟨some 172, some (171, false), .mov, [.t 25]⟩,
 ⟨some 173, some (171, false), .mov, [.t 27]⟩,
 ⟨some 174, some (171, false), .call 28, [.t 172, .t 173]⟩,
 ⟨some 175, some (171, false), .unNot, [.t 174]⟩,
 ⟨some 176, none, .pick, [.t 171, .c (.bool true), .t 175]⟩,
 ⟨some 177, none, .mov, [.t 176]⟩,
 ⟨some 178, some (177, false), .mov, [.t 26]⟩,
 ⟨some 179, some (177, false), .call 34, [.t 178]⟩,
 ⟨some 180, some (177, false), .mov, [.t 28]⟩,
 ⟨some 181, some (177, false), .call 33, [.t 179, .t 180]⟩,
 ⟨some 182, some (177, false), .unNot, [.t 181]⟩,
 ⟨some 183, none, .pick, [.t 177, .c (.bool true), .t 182]⟩,
 ⟨some 184, none, .mov, [.t 183]⟩,
 ⟨some 185, some (184, false), .load (some 4), [.t 7]⟩,
 ⟨some 186, some (184, false), .fldA 3, [.t 5]⟩,
 ⟨some 187, some (184, false), .load none, [.t 186]⟩,
 ⟨some 188, some (184, false), .fldA 4, [.t 5]⟩,
 ⟨some 189, some (184, false), .load none, [.t 188]⟩,
 ⟨some 190, some (184, false), .call 17, [.t 185, .t 187, .t 189]⟩,
 ⟨some 191, some (184, false), .call 34, [.t 190]⟩,
 ⟨some 192, some (184, false), .load (some 4), [.t 9]⟩,
 ⟨some 193, some (184, false), .fldA 3, [.t 5]⟩,
 ⟨some 194, some (184, false), .load none, [.t 193]⟩,
 ⟨some 195, some (184, false), .fldA 4, [.t 5]⟩,
 ⟨some 196, some (184, false), .load none, [.t 195]⟩,
 ⟨some 197, some (184, false), .call 35, [.t 192, .t 194, .t 196]⟩,
 ⟨some 198, some (184, false), .call 33, [.t 191, .t 197]⟩,
 ⟨some 199, some (184, false), .unNot, [.t 198]⟩,
 ⟨some 200, none, .pick, [.t 184, .c (.bool true), .t 199]⟩,
 ⟨some 201, none, .mov, [.t 200]⟩,
 ⟨some 202, some (201, false), .load (some 4), [.t 7]⟩,
 ⟨some 203, some (201, false), .call 36, [.t 202]⟩,
 ⟨some 204, some (201, false), .unNot, [.t 203]⟩,
 ⟨some 205, none, .pick, [.t 201, .c (.bool true), .t 204]⟩])
 (.cond (.t 205)
 (.seq (.reg []
 [⟨some 6, none, .mov, [.c (.bool false)]⟩])
 .ret)
 .skip)))))))))
 (.reg []
 [⟨some 85, none, .mov, [.t 11]⟩,
 ⟨some 86, none, .bin .add .scal, [.t 85, .c (.int .i64 1)]⟩,
 ⟨some 11, none, .mov, [.t 86]⟩]))
/-- "crossroads/crossroadslaw23.LinkPlays": 207 temporaries, 3 parameters, results some [.t 6]. -/
def ac7 : AC :=
 .seq (.reg []
 [⟨some 3, none, .box, [.t 0]⟩,
 ⟨some 5, none, .box, [.t 2]⟩,
 ⟨some 6, none, .mov, [.c (.bool false)]⟩])
 (.seq (.reg []
 [⟨some 30, none, .idxAA 2 1, [.t 3, .c (.int .i64 0)]⟩,
 ⟨some 31, none, .load none, [.t 30]⟩,
 ⟨some 32, none, .idxAA 2 1, [.t 3, .c (.int .i64 1)]⟩,
 ⟨some 33, none, .load none, [.t 32]⟩,
 ⟨some 34, none, .call 24, [.t 31, .t 33]⟩,
 ⟨some 29, none, .mov, [.t 34]⟩,
 ⟨some 35, none, .ext 0, [.t 29]⟩,
 ⟨some 36, none, .ext 1, [.t 29]⟩,
 ⟨some 7, none, .alloc [.int .i64 0, .int .i64 0, .nils, .bool false], []⟩,
 ⟨none, none, .store 4, [.t 7, .t 35]⟩,
 ⟨some 8, none, .mov, [.t 36]⟩])
 (.seq (.reg []
 [⟨some 38, none, .idxAA 2 1, [.t 3, .c (.int .i64 0)]⟩,
 ⟨some 39, none, .load none, [.t 38]⟩,
 ⟨some 40, none, .idxAA 2 1, [.t 3, .c (.int .i64 1)]⟩,
 ⟨some 41, none, .load none, [.t 40]⟩,
 ⟨some 42, none, .call 25, [.t 39, .t 41]⟩,
 ⟨some 37, none, .mov, [.t 42]⟩,
 ⟨some 43, none, .ext 0, [.t 37]⟩,
 ⟨some 44, none, .ext 1, [.t 37]⟩,
 ⟨some 9, none, .alloc [.int .i64 0, .int .i64 0, .nils, .bool false], []⟩,
 ⟨none, none, .store 4, [.t 9, .t 43]⟩,
 ⟨some 10, none, .mov, [.t 44]⟩])
 (.seq (.seq (.reg [[], [], [0, 1], [2], [3], [4, 3, 3], [3], [5, 6, 5, 3], [7, 3], [3, 8], [9, 7], [10], [11, 10], [12, 10], [13, 10], [10, 14]]
 [⟨some 45, none, .mov, [.t 8]⟩,
 ⟨some 46, none, .mov, [.t 10]⟩,
 ⟨some 47, none, .bin .neq .scal, [.t 45, .t 46]⟩,
 ⟨some 48, none, .mov, [.t 47]⟩,
 ⟨some 49, some (48, false), .load (some 4), [.t 7]⟩,
 ⟨some 50, some (48, false), .call 23, [.t 49]⟩,
 ⟨some 51, some (48, false), .load (some 4), [.t 9]⟩,
 ⟨some 52, some (48, false), .call 22, [.t 50, .t 51]⟩,
 ⟨some 53, some (48, false), .unNot, [.t 52]⟩,
 ⟨some 54, none, .pick, [.t 48, .c (.bool true), .t 53]⟩,
 ⟨some 55, none, .mov, [.t 54]⟩,
 ⟨some 56, some (55, false), .fldA 5, [.t 5]⟩,
 ⟨some 57, some (55, false), .load none, [.t 56]⟩,
 ⟨some 58, some (55, false), .lenL, [.t 57]⟩,
 ⟨some 59, some (55, false), .bin .gtr .scal, [.t 58, .c (.int .i64 60)]⟩,
 ⟨some 60, none, .pick, [.t 55, .c (.bool true), .t 59]⟩])
 (.cond (.t 60)
 (.seq (.reg []
 [⟨some 61, none, .mov, [.t 8]⟩,
 ⟨some 62, none, .mov, [.t 10]⟩,
 ⟨some 63, none, .bin .eql .scal, [.t 61, .t 62]⟩,
 ⟨some 64, none, .mov, [.t 63]⟩,
 ⟨some 65, some (64, true), .fldA 5, [.t 5]⟩,
 ⟨some 66, some (64, true), .load none, [.t 65]⟩,
 ⟨some 67, some (64, true), .lenL, [.t 66]⟩,
 ⟨some 68, some (64, true), .bin .gtr .scal, [.t 67, .c (.int .i64 60)]⟩,
 ⟨some 69, none, .pick, [.t 64, .t 68, .c (.bool false)]⟩,
 ⟨some 70, none, .mov, [.t 69]⟩,
 ⟨some 71, some (70, true), .call 11, []⟩,
 ⟨some 72, none, .pick, [.t 70, .t 71, .c (.bool false)]⟩,
 ⟨some 6, none, .mov, [.t 72]⟩])
 .ret)
 .skip))
 (.seq (.seq (.reg []
 [⟨some 11, none, .mov, [.c (.int .i64 0)]⟩])
 (.block 0 (.loop ac7_1)))
 (.seq (.reg []
 [⟨some 206, none, .call 11, []⟩,
 ⟨some 6, none, .mov, [.t 206]⟩])
 .ret)))))
theorem i7 : fnInfo Try.prog 7 = some (207, [.t 6], ac7) := by kernel_rfl
/-- "crossroads/link.Compare": 22 temporaries, 2 parameters, results some [.t 4]. -/
def ac8 : AC :=
 .seq (.reg []
 [⟨some 2, none, .box, [.t 0]⟩,
 ⟨some 3, none, .box, [.t 1]⟩,
 ⟨some 4, none, .mov, [.c (.int .i64 0)]⟩])
 (.seq (.reg [[], [0], [], [2], [1, 3], [], [5, 4], [], [7, 6], [6, 8], [], [10], [], [12], [11, 13, 8], [4, 9, 14], [15, 14], [16, 16, 0, 1, 2, 3, 4, 5, 6, 7, 8, 9, 10, 11, 12, 13, 14, 15, 16]]
 [⟨some 5, none, .fldA 2, [.t 2]⟩,
 ⟨some 6, none, .load none, [.t 5]⟩,
 ⟨some 7, none, .fldA 2, [.t 3]⟩,
 ⟨some 8, none, .load none, [.t 7]⟩,
 ⟨some 9, none, .call 38, [.t 6, .t 8]⟩,
 ⟨some 10, none, .load (some 4), [.t 2]⟩,
 ⟨some 11, none, .call 39, [.t 10]⟩,
 ⟨some 12, none, .load (some 4), [.t 3]⟩,
 ⟨some 13, none, .call 39, [.t 12]⟩,
 ⟨some 14, none, .bin .sub .scal, [.t 11, .t 13]⟩,
 ⟨some 15, none, .fldA 3, [.t 2]⟩,
 ⟨some 16, none, .load none, [.t 15]⟩,
 ⟨some 17, none, .fldA 3, [.t 3]⟩,
 ⟨some 18, none, .load none, [.t 17]⟩,
 ⟨some 19, none, .call 40, [.t 16, .t 18]⟩,
 ⟨some 20, none, .bslice 1 3, [.t 9, .t 14, .t 19]⟩,
 ⟨some 21, none, .call 37, [.t 20]⟩,
 ⟨some 4, none, .mov, [.t 21]⟩])
 .ret)
theorem i8 : fnInfo Try.prog 8 = some (22, [.t 4], ac8) := by kernel_rfl
/-- "crossroads/crossroadsref23.Compare": 38 temporaries, 2 parameters, results some [.t 4]. -/
def ac9 : AC :=
 .seq (.reg []
 [⟨some 2, none, .box, [.t 0]⟩,
 ⟨some 3, none, .box, [.t 1]⟩,
 ⟨some 4, none, .mov, [.c (.int .i64 0)]⟩])
 (.seq (.seq (.reg []
 [⟨some 5, none, .fldA 2, [.t 2]⟩,
 ⟨some 6, none, .load none, [.t 5]⟩,
 ⟨some 7, none, .fldA 2, [.t 3]⟩,
 ⟨some 8, none, .load none, [.t 7]⟩,
 ⟨some 9, none, .bin .neq .scal, [.t 6, .t 8]⟩])
 (.cond (.t 9)
 (.seq (.reg []
 [⟨some 10, none, .fldA 2, [.t 2]⟩,
 ⟨some 11, none, .load none, [.t 10]⟩,
 ⟨some 12, none, .fldA 2, [.t 3]⟩,
 ⟨some 13, none, .load none, [.t 12]⟩,
 ⟨some 14, none, .bin .gtr .scal, [.t 11, .t 13]⟩,
 ⟨some 15, none, .call 41, [.t 14]⟩,
 ⟨some 4, none, .mov, [.t 15]⟩])
 .ret)
 .skip))
 (.seq (.seq (.reg []
 [⟨some 16, none, .fldA 0, [.t 2]⟩,
 ⟨some 17, none, .load none, [.t 16]⟩,
 ⟨some 18, none, .bin .eql .scal, [.t 17, .c (.int .i64 0)]⟩,
 ⟨some 19, none, .fldA 0, [.t 3]⟩,
 ⟨some 20, none, .load none, [.t 19]⟩,
 ⟨some 21, none, .bin .eql .scal, [.t 20, .c (.int .i64 0)]⟩,
 ⟨some 22, none, .bin .neq .bool, [.t 18, .t 21]⟩])
 (.cond (.t 22)
 (.seq (.reg []
 [⟨some 23, none, .fldA 0, [.t 2]⟩,
 ⟨some 24, none, .load none, [.t 23]⟩,
 ⟨some 25, none, .bin .eql .scal, [.t 24, .c (.int .i64 0)]⟩,
 ⟨some 26, none, .call 41, [.t 25]⟩,
 ⟨some 4, none, .mov, [.t 26]⟩])
 .ret)
 .skip))
 (.seq (.seq (.reg []
 [⟨some 27, none, .fldA 3, [.t 2]⟩,
 ⟨some 28, none, .load none, [.t 27]⟩,
 ⟨some 29, none, .fldA 3, [.t 3]⟩,
 ⟨some 30, none, .load none, [.t 29]⟩,
 ⟨some 31, none, .bin .neq .scal, [.t 28, .t 30]⟩])
 (.cond (.t 31)
 (.seq (.reg []
 [⟨some 32, none, .fldA 3, [.t 2]⟩,
 ⟨some 33, none, .load none, [.t 32]⟩,
 ⟨some 34, none, .fldA 3, [.t 3]⟩,
 ⟨some 35, none, .load none, [.t 34]⟩,
 ⟨some 36, none, .bin .gtr .scal, [.t 33, .t 35]⟩,
 ⟨some 37, none, .call 41, [.t 36]⟩,
 ⟨some 4, none, .mov, [.t 37]⟩])
 .ret)
 .skip))
 (.seq (.reg []
 [⟨some 4, none, .mov, [.c (.int .i64 0)]⟩])
 .ret))))
theorem i9 : fnInfo Try.prog 9 = some (38, [.t 4], ac9) := by kernel_rfl
/-- "crossroads/crossroadslaw23.entry": 12 temporaries, 1 parameters, results some [.c 2 (some 4)]. -/
def ac10 : AC :=
 .seq (.reg []
 [⟨some 1, none, .box, [.t 0]⟩,
 ⟨some 2, none, .alloc [.int .i64 0, .int .u64 0, .int .u32 0, .int .i64 0], []⟩])
 (.seq (.reg []
 [⟨some 3, none, .fldA 0, [.t 1]⟩,
 ⟨some 4, none, .load none, [.t 3]⟩,
 ⟨some 5, none, .fldA 1, [.t 1]⟩,
 ⟨some 6, none, .load none, [.t 5]⟩,
 ⟨some 7, none, .fldA 2, [.t 1]⟩,
 ⟨some 8, none, .load none, [.t 7]⟩,
 ⟨some 9, none, .fldA 3, [.t 1]⟩,
 ⟨some 10, none, .load none, [.t 9]⟩,
 ⟨some 11, none, .build [.int .i64 0, .int .u64 0, .int .u32 0, .int .i64 0] [(0, 1), (1, 1), (2, 1), (3, 1)], [.t 4, .t 6, .t 8, .t 10]⟩,
 ⟨none, none, .store 4, [.t 2, .t 11]⟩])
 .ret)
theorem i10 : fnInfo Try.prog 10 = some (12, [.c 2 (some 4)], ac10) := by kernel_rfl
/-- "crossroads/crossroadslaw23.alive": 46 temporaries, 0 parameters, results some [.t 0]. -/
def ac11 : AC :=
 .seq (.reg []
 [⟨some 0, none, .mov, [.c (.bool false)]⟩])
 (.seq (.reg []
 [⟨some 9, none, .call 24, [.c (.int .i64 1), .c (.int .i64 1)]⟩,
 ⟨some 8, none, .mov, [.t 9]⟩,
 ⟨some 10, none, .ext 0, [.t 8]⟩,
 ⟨some 11, none, .ext 1, [.t 8]⟩,
 ⟨some 1, none, .alloc [.int .i64 0, .int .i64 0, .nils, .bool false], []⟩,
 ⟨none, none, .store 4, [.t 1, .t 10]⟩,
 ⟨some 2, none, .mov, [.t 11]⟩])
 (.seq (.reg []
 [⟨some 13, none, .load (some 4), [.t 1]⟩,
 ⟨some 14, none, .build [.int .i64 0, .int .i64 0, .int .u64 0, .int .u32 0, .int .i64 0, .int .i64 0, .nils] [(0, 1), (2, 1), (3, 1)], [.c (.int .i64 1), .c (.int .u64 5), .c (.int .u32 1)]⟩,
 ⟨some 15, none, .call 21, [.t 13, .t 14]⟩,
 ⟨some 12, none, .mov, [.t 15]⟩,
 ⟨some 16, none, .ext 0, [.t 12]⟩,
 ⟨some 17, none, .ext 1, [.t 12]⟩,
 ⟨some 18, none, .ext 2, [.t 12]⟩,
 ⟨none, none, .store 4, [.t 1, .t 16]⟩,
 ⟨some 3, none, .mov, [.t 17]⟩,
 ⟨some 4, none, .mov, [.t 18]⟩])
 (.seq (.reg []
 [⟨some 20, none, .load (some 4), [.t 1]⟩,
 ⟨some 21, none, .build [.int .i64 0, .int .i64 0, .int .u64 0, .int .u32 0, .int .i64 0, .int .i64 0, .nils] [(0, 1), (2, 1), (3, 1)], [.c (.int .i64 1), .c (.int .u64 6), .c (.int .u32 1)]⟩,
 ⟨some 22, none, .call 21, [.t 20, .t 21]⟩,
 ⟨some 19, none, .mov, [.t 22]⟩,
 ⟨some 23, none, .ext 0, [.t 19]⟩,
 ⟨some 24, none, .ext 1, [.t 19]⟩,
 ⟨some 25, none, .ext 2, [.t 19]⟩,
 ⟨some 5, none, .alloc [.int .i64 0, .int .i64 0, .nils, .bool false], []⟩,
 ⟨none, none, .store 4, [.t 5, .t 23]⟩,
 ⟨some 6, none, .mov, [.t 24]⟩,
 ⟨some 7, none, .mov, [.t 25]⟩])
 (.seq (.reg []
 [⟨some 26, none, .mov, [.t 2]⟩,
 ⟨some 27, none, .bin .eql .scal, [.t 26, .c (.int .i64 0)]⟩,
 ⟨some 28, none, .mov, [.t 27]⟩,
 ⟨some 29, some (28, true), .mov, [.t 3]⟩,
 ⟨some 30, some (28, true), .bin .eql .scal, [.t 29, .c (.int .i64 3)]⟩,
 ⟨some 31, none, .pick, [.t 28, .t 30, .c (.bool false)]⟩,
 ⟨some 32, none, .mov, [.t 31]⟩,
 ⟨some 33, some (32, true), .mov, [.t 4]⟩,
 ⟨some 34, some (32, true), .bin .eql .scal, [.t 33, .c (.int .i64 0)]⟩,
 ⟨some 35, none, .pick, [.t 32, .t 34, .c (.bool false)]⟩,
 ⟨some 36, none, .mov, [.t 35]⟩,
 ⟨some 37, some (36, true), .mov, [.t 7]⟩,
 ⟨some 38, some (36, true), .bin .eql .scal, [.t 37, .c (.int .i64 8)]⟩,
 ⟨some 39, none, .pick, [.t 36, .t 38, .c (.bool false)]⟩,
 ⟨some 40, none, .mov, [.t 39]⟩,
 ⟨some 41, some (40, true), .build [.int .i64 0, .int .u64 0, .int .u32 0, .int .i64 0] [(2, 1)], [.c (.int .u32 2)]⟩,
 ⟨some 42, some (40, true), .build [.int .i64 0, .int .u64 0, .int .u32 0, .int .i64 0] [(2, 1), (3, 1)], [.c (.int .u32 1), .c (.int .i64 9)]⟩,
 ⟨some 43, some (40, true), .call 8, [.t 41, .t 42]⟩,
 ⟨some 44, some (40, true), .bin .eql .scal, [.t 43, .c (.int .i64 1)]⟩,
 ⟨some 45, none, .pick, [.t 40, .t 44, .c (.bool false)]⟩,
 ⟨some 0, none, .mov, [.t 45]⟩])
 .ret))))
theorem i11 : fnInfo Try.prog 11 = some (46, [.t 0], ac11) := by kernel_rfl
def ac12_1 : AC :=
 .seq (.seq (.reg []
 [⟨some 4, none, .mov, [.t 3]⟩,
 ⟨some 5, none, .fldA 6, [.t 1]⟩,
 ⟨some 6, none, .load none, [.t 5]⟩,
 ⟨some 7, none, .lenL, [.t 6]⟩,
 ⟨some 8, none, .bin .lss .scal, [.t 4, .t 7]⟩])
 (.cond (.t 8)
 .skip
 (.exit 0)))
 (.seq (.block 1 (.seq (.reg []
 [⟨some 11, none, .mov, [.t 3]⟩,
 ⟨some 12, none, .bin .eql .scal, [.t 11, .c (.int .i64 8)]⟩,
 ⟨some 13, none, .mov, [.t 12]⟩,
 ⟨some 14, some (13, false), .fldA 6, [.t 1]⟩,
 ⟨some 15, some (13, false), .load none, [.t 14]⟩,
 ⟨some 16, some (13, false), .mov, [.t 3]⟩,
 ⟨some 17, some (13, false), .idxA 2, [.t 15, .t 16]⟩,
 ⟨some 18, some (13, false), .fldA 1, [.t 17]⟩,
 ⟨some 19, some (13, false), .load none, [.t 18]⟩,
 ⟨some 20, some (13, false), .lenL, [.t 19]⟩,
 ⟨some 21, some (13, false), .bin .gtr .scal, [.t 20, .c (.int .i64 300)]⟩,
 ⟨some 22, none, .pick, [.t 13, .c (.bool true), .t 21]⟩])
 (.cond (.t 22)
 (.seq (.reg []
 [⟨some 2, none, .mov, [.c (.bool false)]⟩])
 .ret)
 .skip)))
 (.reg []
 [⟨some 9, none, .mov, [.t 3]⟩,
 ⟨some 10, none, .bin .add .scal, [.t 9, .c (.int .i64 1)]⟩,
 ⟨some 3, none, .mov, [.t 10]⟩]))
/-- "crossroads/crossroadslaw23.little": 23 temporaries, 1 parameters, results some [.t 2]. -/
def ac12 : AC :=
 .seq (.reg []
 [⟨some 1, none, .box, [.t 0]⟩,
 ⟨some 2, none, .mov, [.c (.bool false)]⟩])
 (.seq (.seq (.reg []
 [⟨some 3, none, .mov, [.c (.int .i64 0)]⟩])
 (.block 0 (.loop ac12_1)))
 (.seq (.reg []
 [⟨some 2, none, .mov, [.c (.bool true)]⟩])
 .ret))
theorem i12 : fnInfo Try.prog 12 = some (23, [.t 2], ac12) := by kernel_rfl
/-- "crossroads/link.Entry": 12 temporaries, 1 parameters, results some [.c 2 (some 4)]. -/
def ac14 : AC :=
 .seq (.reg []
 [⟨some 1, none, .box, [.t 0]⟩,
 ⟨some 2, none, .alloc [.int .i64 0, .int .u64 0, .int .u32 0, .int .i64 0], []⟩])
 (.seq (.reg []
 [⟨some 3, none, .fldA 1, [.t 1]⟩,
 ⟨some 4, none, .load none, [.t 3]⟩,
 ⟨some 5, none, .fldA 2, [.t 1]⟩,
 ⟨some 6, none, .load none, [.t 5]⟩,
 ⟨some 7, none, .fldA 3, [.t 1]⟩,
 ⟨some 8, none, .load none, [.t 7]⟩,
 ⟨some 9, none, .fldA 4, [.t 1]⟩,
 ⟨some 10, none, .load none, [.t 9]⟩,
 ⟨some 11, none, .build [.int .i64 0, .int .u64 0, .int .u32 0, .int .i64 0] [(0, 1), (1, 1), (2, 1), (3, 1)], [.t 4, .t 6, .t 8, .t 10]⟩,
 ⟨none, none, .store 4, [.t 2, .t 11]⟩])
 .ret)
theorem i14 : fnInfo Try.prog 14 = some (12, [.c 2 (some 4)], ac14) := by kernel_rfl
def ac17_1 : AC :=
 .seq (.reg []
 [⟨some 14, none, .bin .lss .scal, [.t 13, .t 12]⟩])
 (.seq (.cond (.t 14)
 .skip
 (.exit 0))
 (.seq (.block 1 (.seq (.reg []
 [⟨some 15, none, .idxA 7, [.t 11, .t 13]⟩,
 ⟨some 16, none, .load (some 7), [.t 15]⟩,
 ⟨some 9, none, .alloc [.int .i64 0, .int .i64 0, .int .u64 0, .int .u32 0, .int .i64 0, .int .i64 0, .nils], []⟩,
 ⟨none, none, .store 7, [.t 9, .t 16]⟩])
 (.seq (.reg []
 [⟨some 17, none, .fldA 2, [.t 9]⟩,
 ⟨some 18, none, .load none, [.t 17]⟩,
 ⟨some 19, none, .mov, [.t 1]⟩,
 ⟨some 20, none, .bin .geq .scal, [.t 18, .t 19]⟩,
 ⟨some 21, none, .mov, [.t 20]⟩,
 ⟨some 22, some (21, true), .fldA 2, [.t 9]⟩,
 ⟨some 23, some (21, true), .load none, [.t 22]⟩,
 ⟨some 24, some (21, true), .mov, [.t 2]⟩,
 ⟨some 25, some (21, true), .bin .leq .scal, [.t 23, .t 24]⟩,
 ⟨some 26, none, .pick, [.t 21, .t 25, .c (.bool false)]⟩])
 (.cond (.t 26)
 (.reg []
 [⟨some 27, none, .mov, [.t 7]⟩,
 ⟨some 28, none, .load (some 7), [.t 9]⟩,
 ⟨some 29, none, .call 14, [.t 28]⟩,
 ⟨some 30, none, .bslice 4 25, [.t 29]⟩,
 ⟨some 31, none, .append 4 25 32, [.t 27, .t 30]⟩,
 ⟨some 7, none, .mov, [.t 31]⟩])
 .skip))))
 (.reg []
 [⟨some 32, none, .bin .add .scal, [.t 13, .c (.int .i64 1)]⟩,
 ⟨some 13, none, .mov, [.t 32]⟩])))
/-- "crossroads/link.List": 34 temporaries, 3 parameters, results some [.t 6]. -/
def ac17 : AC :=
 .seq (.reg []
 [⟨some 3, none, .box, [.t 0]⟩,
 ⟨some 6, none, .mov, [.c .nils]⟩])
 (.seq (.reg []
 [⟨some 7, none, .mov, [.c .nils]⟩])
 (.seq (.seq (.reg []
 [⟨some 10, none, .fldA 2, [.t 3]⟩,
 ⟨some 11, none, .load none, [.t 10]⟩,
 ⟨some 12, none, .lenL, [.t 11]⟩,
 ⟨some 13, none, .mov, [.c (.int .i64 0)]⟩])
 (.block 0 (.loop ac17_1)))
 (.seq (.reg []
 [⟨some 33, none, .mov, [.t 7]⟩,
 ⟨some 6, none, .mov, [.t 33]⟩])
 .ret)))
theorem i17 : fnInfo Try.prog 17 = some (34, [.t 6], ac17) := by kernel_rfl
def ac18_1 : AC :=
 .seq (.reg []
 [⟨some 26, none, .bin .lss .scal, [.t 25, .t 24]⟩])
 (.seq (.cond (.t 26)
 .skip
 (.exit 0))
 (.seq (.block 1 (.seq (.reg []
 [⟨some 27, none, .idxA 4, [.t 23, .t 25]⟩,
 ⟨some 28, none, .load (some 4), [.t 27]⟩,
 ⟨some 9, none, .alloc [.int .i64 0, .int .u64 0, .int .u32 0, .int .i64 0], []⟩,
 ⟨none, none, .store 4, [.t 9, .t 28]⟩])
 (.seq (.seq (.reg []
 [⟨some 30, none, .mov, [.t 6]⟩,
 ⟨some 31, none, .fldA 1, [.t 9]⟩,
 ⟨some 32, none, .load none, [.t 31]⟩,
 ⟨some 33, none, .lookup (.agg [.int .i64 0, .int .u64 0, .int .u32 0, .int .i64 0]) true (.int .u64), [.t 30, .t 32]⟩,
 ⟨some 29, none, .mov, [.t 33]⟩,
 ⟨some 34, none, .ext 0, [.t 29]⟩,
 ⟨some 35, none, .ext 1, [.t 29]⟩,
 ⟨some 10, none, .alloc [.int .i64 0, .int .u64 0, .int .u32 0, .int .i64 0], []⟩,
 ⟨none, none, .store 4, [.t 10, .t 34]⟩,
 ⟨some 11, none, .mov, [.t 35]⟩])
 (.seq (.reg []
 [⟨some 36, none, .mov, [.t 11]⟩])
 (.cond (.t 36)
 (.exit 1)
 .skip)))
 (.seq (.reg []
 [⟨some 37, none, .mov, [.t 6]⟩,
 ⟨some 38, none, .fldA 1, [.t 9]⟩,
 ⟨some 39, none, .load none, [.t 38]⟩,
 ⟨some 40, none, .load (some 4), [.t 9]⟩,
 ⟨none, none, .mapset (.int .u64), [.t 37, .t 39, .t 40]⟩])
 (.seq (.reg []
 [⟨some 41, none, .fldA 1, [.t 9]⟩,
 ⟨some 42, none, .load none, [.t 41]⟩,
 ⟨some 43, none, .build [.int .i64 0, .int .u64 0, .int .u32 0, .int .i64 0] [(1, 1)], [.t 42]⟩,
 ⟨some 12, none, .alloc [.int .i64 0, .int .u64 0, .int .u32 0, .int .i64 0], []⟩,
 ⟨none, none, .store 4, [.t 12, .t 43]⟩])
 (.seq (.reg []
 [⟨some 45, none, .load (some 4), [.t 2]⟩,
 ⟨some 46, none, .fldA 1, [.t 9]⟩,
 ⟨some 47, none, .load none, [.t 46]⟩,
 ⟨some 48, none, .call 47, [.t 45, .t 47]⟩,
 ⟨some 44, none, .mov, [.t 48]⟩,
 ⟨some 49, none, .ext 0, [.t 44]⟩,
 ⟨some 50, none, .ext 1, [.t 44]⟩,
 ⟨some 13, none, .alloc [.int .i64 0, .int .i64 0, .int .u64 0, .int .u32 0, .int .i64 0, .int .i64 0, .nils], []⟩,
 ⟨none, none, .store 7, [.t 13, .t 49]⟩,
 ⟨some 14, none, .mov, [.t 50]⟩])
 (.seq (.seq (.reg []
 [⟨some 51, none, .mov, [.t 14]⟩])
 (.cond (.t 51)
 (.reg []
 [⟨some 52, none, .load (some 7), [.t 13]⟩,
 ⟨some 53, none, .call 14, [.t 52]⟩,
 ⟨none, none, .store 4, [.t 12, .t 53]⟩])
 .skip))
 (.seq (.reg []
 [⟨some 54, none, .fldA 0, [.t 9]⟩,
 ⟨some 55, none, .load none, [.t 54]⟩,
 ⟨some 56, none, .bin .neq .scal, [.t 55, .c (.int .i64 0)]⟩,
 ⟨some 57, none, .mov, [.t 56]⟩,
 ⟨some 58, some (57, true), .mov, [.t 14]⟩,
 ⟨some 59, some (57, true), .unNot, [.t 58]⟩,
 ⟨some 60, some (57, true), .mov, [.t 59]⟩,
 ⟨some 61, some (60, false), .load (some 4), [.t 9]⟩,
 ⟨some 62, some (60, false), .load (some 4), [.t 12]⟩,
 ⟨some 63, some (60, false), .call 8, [.t 61, .t 62]⟩,
 ⟨some 64, some (60, false), .bin .gtr .scal, [.t 63, .c (.int .i64 0)]⟩,
 ⟨some 65, some (57, true), .pick, [.t 60, .c (.bool true), .t 64]⟩,
 ⟨some 66, none, .pick, [.t 57, .t 65, .c (.bool false)]⟩])
 (.cond (.t 66)
 (.reg []
 [⟨some 67, none, .mov, [.t 7]⟩,
 ⟨some 68, none, .load (some 4), [.t 12]⟩,
 ⟨some 69, none, .bslice 4 25, [.t 68]⟩,
 ⟨some 70, none, .append 4 25 32, [.t 67, .t 69]⟩,
 ⟨some 7, none, .mov, [.t 70]⟩])
 .skip)))))))))
 (.reg []
 [⟨some 71, none, .bin .add .scal, [.t 25, .c (.int .i64 1)]⟩,
 ⟨some 25, none, .mov, [.t 71]⟩])))
def ac18_2 : AC :=
 .seq (.reg []
 [⟨some 76, none, .bin .lss .scal, [.t 75, .t 74]⟩])
 (.seq (.cond (.t 76)
 .skip
 (.exit 2))
 (.seq (.block 3 (.seq (.reg []
 [⟨some 77, none, .idxA 4, [.t 73, .t 75]⟩,
 ⟨some 78, none, .load (some 4), [.t 77]⟩,
 ⟨some 17, none, .alloc [.int .i64 0, .int .u64 0, .int .u32 0, .int .i64 0], []⟩,
 ⟨none, none, .store 4, [.t 17, .t 78]⟩])
 (.seq (.reg []
 [⟨some 80, none, .mov, [.t 6]⟩,
 ⟨some 81, none, .fldA 1, [.t 17]⟩,
 ⟨some 82, none, .load none, [.t 81]⟩,
 ⟨some 83, none, .lookup (.agg [.int .i64 0, .int .u64 0, .int .u32 0, .int .i64 0]) true (.int .u64), [.t 80, .t 82]⟩,
 ⟨some 79, none, .mov, [.t 83]⟩,
 ⟨some 84, none, .ext 0, [.t 79]⟩,
 ⟨some 85, none, .ext 1, [.t 79]⟩,
 ⟨some 18, none, .alloc [.int .i64 0, .int .u64 0, .int .u32 0, .int .i64 0], []⟩,
 ⟨none, none, .store 4, [.t 18, .t 84]⟩,
 ⟨some 19, none, .mov, [.t 85]⟩])
 (.seq (.reg []
 [⟨some 86, none, .mov, [.t 19]⟩,
 ⟨some 87, none, .unNot, [.t 86]⟩,
 ⟨some 88, none, .mov, [.t 87]⟩,
 ⟨some 89, some (88, true), .fldA 1, [.t 3]⟩,
 ⟨some 90, some (88, true), .load none, [.t 89]⟩,
 ⟨some 91, none, .pick, [.t 88, .t 90, .c (.bool false)]⟩,
 ⟨some 92, none, .mov, [.t 91]⟩,
 ⟨some 93, some (92, true), .fldA 1, [.t 17]⟩,
 ⟨some 94, some (92, true), .load none, [.t 93]⟩,
 ⟨some 95, some (92, true), .fldA 3, [.t 3]⟩,
 ⟨some 96, some (92, true), .load none, [.t 95]⟩,
 ⟨some 97, some (92, true), .bin .geq .scal, [.t 94, .t 96]⟩,
 ⟨some 98, none, .pick, [.t 92, .t 97, .c (.bool false)]⟩,
 ⟨some 99, none, .mov, [.t 98]⟩,
 ⟨some 100, some (99, true), .fldA 1, [.t 17]⟩,
 ⟨some 101, some (99, true), .load none, [.t 100]⟩,
 ⟨some 102, some (99, true), .fldA 4, [.t 3]⟩,
 ⟨some 103, some (99, true), .load none, [.t 102]⟩,
 ⟨some 104, some (99, true), .bin .leq .scal, [.t 101, .t 103]⟩,
 ⟨some 105, none, .pick, [.t 99, .t 104, .c (.bool false)]⟩,
 ⟨some 20, none, .mov, [.t 105]⟩])
 (.seq (.reg []
 [⟨some 106, none, .mov, [.t 20]⟩,
 ⟨some 107, none, .mov, [.t 106]⟩,
 ⟨some 108, some (107, false), .mov, [.t 19]⟩,
 ⟨some 109, some (107, false), .mov, [.t 108]⟩,
 ⟨some 110, some (109, true), .load (some 4), [.t 17]⟩,
 ⟨some 111, some (109, true), .load (some 4), [.t 18]⟩,
 ⟨some 112, some (109, true), .call 8, [.t 110, .t 111]⟩,
 ⟨some 113, some (109, true), .bin .gtr .scal, [.t 112, .c (.int .i64 0)]⟩,
 ⟨some 114, some (107, false), .pick, [.t 109, .t 113, .c (.bool false)]⟩,
 ⟨some 115, none, .pick, [.t 107, .c (.bool true), .t 114]⟩])
 (.cond (.t 115)
 (.reg []
 [⟨some 116, none, .mov, [.t 15]⟩,
 ⟨some 117, none, .fldA 1, [.t 17]⟩,
 ⟨some 118, none, .load none, [.t 117]⟩,
 ⟨some 119, none, .bslice 1 22, [.t 118]⟩,
 ⟨some 120, none, .append 1 22 8, [.t 116, .t 119]⟩,
 ⟨some 15, none, .mov, [.t 120]⟩])
 .skip))))))
 (.reg []
 [⟨some 121, none, .bin .add .scal, [.t 75, .c (.int .i64 1)]⟩,
 ⟨some 75, none, .mov, [.t 121]⟩])))
/-- "crossroads/link.Differ": 124 temporaries, 2 parameters, results some [.t 4, .t 5]. -/
def ac18 : AC :=
 .seq (.reg []
 [⟨some 2, none, .box, [.t 0]⟩,
 ⟨some 3, none, .box, [.t 1]⟩,
 ⟨some 4, none, .mov, [.c .nils]⟩,
 ⟨some 5, none, .mov, [.c .nils]⟩])
 (.seq (.reg []
 [⟨some 21, none, .mkmap, []⟩,
 ⟨some 6, none, .mov, [.t 21]⟩])
 (.seq (.reg []
 [⟨some 7, none, .mov, [.c .nils]⟩])
 (.seq (.seq (.reg []
 [⟨some 22, none, .fldA 5, [.t 3]⟩,
 ⟨some 23, none, .load none, [.t 22]⟩,
 ⟨some 24, none, .lenL, [.t 23]⟩,
 ⟨some 25, none, .mov, [.c (.int .i64 0)]⟩])
 (.block 0 (.loop ac18_1)))
 (.seq (.reg []
 [⟨some 15, none, .mov, [.c .nils]⟩])
 (.seq (.seq (.reg []
 [⟨some 72, none, .load (some 4), [.t 2]⟩,
 ⟨some 73, none, .call 17, [.t 72, .c (.int .u64 0), .c (.int .u64 18446744073709551615)]⟩,
 ⟨some 74, none, .lenL, [.t 73]⟩,
 ⟨some 75, none, .mov, [.c (.int .i64 0)]⟩])
 (.block 2 (.loop ac18_2)))
 (.seq (.reg []
 [⟨some 122, none, .mov, [.t 15]⟩,
 ⟨some 123, none, .mov, [.t 7]⟩,
 ⟨some 4, none, .mov, [.t 122]⟩,
 ⟨some 5, none, .mov, [.t 123]⟩])
 .ret))))))
theorem i18 : fnInfo Try.prog 18 = some (124, [.t 4, .t 5], ac18) := by kernel_rfl
/-- "crossroads/link.Put": 64 temporaries, 2 parameters, results some [.c 4 (some 4), .t 5, .t 6]. -/
def ac21 : AC :=
 .seq (.reg []
 [⟨some 2, none, .box, [.t 0]⟩,
 ⟨some 3, none, .box, [.t 1]⟩,
 ⟨some 4, none, .alloc [.int .i64 0, .int .i64 0, .nils, .bool false], []⟩,
 ⟨some 5, none, .mov, [.c (.int .i64 0)]⟩,
 ⟨some 6, none, .mov, [.c (.int .i64 0)]⟩])
 (.seq (.seq (.reg []
 [⟨some 10, none, .load (some 4), [.t 2]⟩,
 ⟨some 11, none, .load (some 7), [.t 3]⟩,
 ⟨some 12, none, .call 48, [.t 10, .t 11]⟩,
 ⟨some 13, none, .unNot, [.t 12]⟩])
 (.cond (.t 13)
 (.seq (.reg []
 [⟨some 14, none, .load (some 4), [.t 2]⟩,
 ⟨none, none, .store 4, [.t 4, .t 14]⟩,
 ⟨some 5, none, .mov, [.c (.int .i64 0)]⟩,
 ⟨some 6, none, .mov, [.c (.int .i64 1)]⟩])
 .ret)
 .skip))
 (.seq (.reg []
 [⟨some 16, none, .load (some 4), [.t 2]⟩,
 ⟨some 17, none, .fldA 2, [.t 3]⟩,
 ⟨some 18, none, .load none, [.t 17]⟩,
 ⟨some 19, none, .call 49, [.t 16, .t 18]⟩,
 ⟨some 15, none, .mov, [.t 19]⟩,
 ⟨some 20, none, .ext 0, [.t 15]⟩,
 ⟨some 21, none, .ext 1, [.t 15]⟩,
 ⟨some 7, none, .mov, [.t 20]⟩,
 ⟨some 8, none, .mov, [.t 21]⟩])
 (.seq (.seq (.reg []
 [⟨some 22, none, .mov, [.t 8]⟩,
 ⟨some 23, none, .unNot, [.t 22]⟩])
 (.cond (.t 23)
 (.seq (.seq (.reg []
 [⟨some 24, none, .fldA 2, [.t 2]⟩,
 ⟨some 25, none, .load none, [.t 24]⟩,
 ⟨some 26, none, .lenL, [.t 25]⟩,
 ⟨some 27, none, .fldA 1, [.t 2]⟩,
 ⟨some 28, none, .load none, [.t 27]⟩,
 ⟨some 29, none, .bin .geq .scal, [.t 26, .t 28]⟩])
 (.cond (.t 29)
 (.seq (.reg []
 [⟨some 30, none, .fldA 3, [.t 2]⟩,
 ⟨none, none, .store 1, [.t 30, .c (.bool true)]⟩])
 (.seq (.reg []
 [⟨some 31, none, .load (some 4), [.t 2]⟩,
 ⟨none, none, .store 4, [.t 4, .t 31]⟩,
 ⟨some 5, none, .mov, [.c (.int .i64 0)]⟩,
 ⟨some 6, none, .mov, [.c (.int .i64 8)]⟩])
 .ret))
 .skip))
 (.seq (.reg [[], [0], [1], [], [], [4], [2, 3, 5, 2], [0, 1, 2, 3, 4, 5, 6], [7, 6, 6, 0, 1, 2, 3, 4, 5, 6]]
 [⟨some 32, none, .fldA 2, [.t 2]⟩,
 ⟨some 33, none, .load none, [.t 32]⟩,
 ⟨some 34, none, .call 51, [.t 33]⟩,
 ⟨some 35, none, .mov, [.t 7]⟩,
 ⟨some 36, none, .load (some 7), [.t 3]⟩,
 ⟨some 37, none, .bslice 7 34, [.t 36]⟩,
 ⟨some 38, none, .call 50, [.t 34, .t 35, .t 37]⟩,
 ⟨some 39, none, .fldA 2, [.t 2]⟩,
 ⟨none, none, .store 1, [.t 39, .t 38]⟩])
 (.seq (.reg []
 [⟨some 40, none, .load (some 4), [.t 2]⟩,
 ⟨none, none, .store 4, [.t 4, .t 40]⟩,
 ⟨some 5, none, .mov, [.c (.int .i64 3)]⟩,
 ⟨some 6, none, .mov, [.c (.int .i64 0)]⟩])
 .ret)))
 .skip))
 (.seq (.reg [[], [0], [], [2], [], [3, 4], [5], [6, 1], [1, 7, 7], [8], [9, 8, 0, 1, 2, 3, 4, 5, 6, 7, 8, 9]]
 [⟨some 41, none, .load (some 7), [.t 3]⟩,
 ⟨some 42, none, .call 14, [.t 41]⟩,
 ⟨some 43, none, .fldA 2, [.t 2]⟩,
 ⟨some 44, none, .load none, [.t 43]⟩,
 ⟨some 45, none, .mov, [.t 7]⟩,
 ⟨some 46, none, .idxA 7, [.t 44, .t 45]⟩,
 ⟨some 47, none, .load (some 7), [.t 46]⟩,
 ⟨some 48, none, .call 14, [.t 47]⟩,
 ⟨some 49, none, .call 8, [.t 42, .t 48]⟩,
 ⟨some 50, none, .bin .add .scal, [.c (.int .i64 1), .t 49]⟩,
 ⟨some 9, none, .mov, [.t 50]⟩])
 (.seq (.seq (.reg []
 [⟨some 51, none, .mov, [.t 9]⟩,
 ⟨some 52, none, .bin .eql .scal, [.t 51, .c (.int .i64 2)]⟩])
 (.cond (.t 52)
 (.seq (.reg []
 [⟨some 53, none, .fldA 2, [.t 2]⟩,
 ⟨some 54, none, .load none, [.t 53]⟩,
 ⟨some 55, none, .call 51, [.t 54]⟩,
 ⟨some 56, none, .fldA 2, [.t 2]⟩,
 ⟨none, none, .store 1, [.t 56, .t 55]⟩])
 (.reg []
 [⟨some 57, none, .fldA 2, [.t 2]⟩,
 ⟨some 58, none, .load none, [.t 57]⟩,
 ⟨some 59, none, .mov, [.t 7]⟩,
 ⟨some 60, none, .load (some 7), [.t 3]⟩,
 ⟨some 61, none, .idxA 7, [.t 58, .t 59]⟩,
 ⟨none, none, .store 7, [.t 61, .t 60]⟩]))
 .skip))
 (.seq (.reg []
 [⟨some 62, none, .load (some 4), [.t 2]⟩,
 ⟨some 63, none, .mov, [.t 9]⟩,
 ⟨none, none, .store 4, [.t 4, .t 62]⟩,
 ⟨some 5, none, .mov, [.t 63]⟩,
 ⟨some 6, none, .mov, [.c (.int .i64 0)]⟩])
 .ret))))))
theorem i21 : fnInfo Try.prog 21 = some (64, [.c 4 (some 4), .t 5, .t 6], ac21) := by kernel_rfl
def ac22_1 : AC :=
 .seq (.seq (.reg []
 [⟨some 34, none, .mov, [.t 5]⟩,
 ⟨some 35, none, .fldA 2, [.t 2]⟩,
 ⟨some 36, none, .load none, [.t 35]⟩,
 ⟨some 37, none, .lenL, [.t 36]⟩,
 ⟨some 38, none, .bin .lss .scal, [.t 34, .t 37]⟩])
 (.cond (.t 38)
 .skip
 (.exit 0)))
 (.seq (.block 1 (.seq (.reg [[], [0], [], [1, 2], [3], [], [5], [], [6, 7], [8], [4, 9], [10]]
 [⟨some 41, none, .fldA 2, [.t 2]⟩,
 ⟨some 42, none, .load none, [.t 41]⟩,
 ⟨some 43, none, .mov, [.t 5]⟩,
 ⟨some 44, none, .idxA 7, [.t 42, .t 43]⟩,
 ⟨some 45, none, .load (some 7), [.t 44]⟩,
 ⟨some 46, none, .fldA 2, [.t 3]⟩,
 ⟨some 47, none, .load none, [.t 46]⟩,
 ⟨some 48, none, .mov, [.t 5]⟩,
 ⟨some 49, none, .idxA 7, [.t 47, .t 48]⟩,
 ⟨some 50, none, .load (some 7), [.t 49]⟩,
 ⟨some 51, none, .call 52, [.t 45, .t 50]⟩,
 ⟨some 52, none, .unNot, [.t 51]⟩])
 (.cond (.t 52)
 (.seq (.reg []
 [⟨some 4, none, .mov, [.c (.bool false)]⟩])
 .ret)
 .skip)))
 (.reg []
 [⟨some 39, none, .mov, [.t 5]⟩,
 ⟨some 40, none, .bin .add .scal, [.t 39, .c (.int .i64 1)]⟩,
 ⟨some 5, none, .mov, [.t 40]⟩]))
/-- "crossroads/crossroadsref23.Same": 53 temporaries, 2 parameters, results some [.t 4]. -/
def ac22 : AC :=
 .seq (.reg []
 [⟨some 2, none, .box, [.t 0]⟩,
 ⟨some 3, none, .box, [.t 1]⟩,
 ⟨some 4, none, .mov, [.c (.bool false)]⟩])
 (.seq (.seq (.reg []
 [⟨some 6, none, .fldA 0, [.t 2]⟩,
 ⟨some 7, none, .load none, [.t 6]⟩,
 ⟨some 8, none, .fldA 0, [.t 3]⟩,
 ⟨some 9, none, .load none, [.t 8]⟩,
 ⟨some 10, none, .bin .neq .scal, [.t 7, .t 9]⟩,
 ⟨some 11, none, .mov, [.t 10]⟩,
 ⟨some 12, some (11, false), .fldA 1, [.t 2]⟩,
 ⟨some 13, some (11, false), .load none, [.t 12]⟩,
 ⟨some 14, some (11, false), .fldA 1, [.t 3]⟩,
 ⟨some 15, some (11, false), .load none, [.t 14]⟩,
 ⟨some 16, some (11, false), .bin .neq .scal, [.t 13, .t 15]⟩,
 ⟨some 17, none, .pick, [.t 11, .c (.bool true), .t 16]⟩,
 ⟨some 18, none, .mov, [.t 17]⟩,
 ⟨some 19, some (18, false), .fldA 3, [.t 2]⟩,
 ⟨some 20, some (18, false), .load none, [.t 19]⟩,
 ⟨some 21, some (18, false), .fldA 3, [.t 3]⟩,
 ⟨some 22, some (18, false), .load none, [.t 21]⟩,
 ⟨some 23, some (18, false), .bin .neq .bool, [.t 20, .t 22]⟩,
 ⟨some 24, none, .pick, [.t 18, .c (.bool true), .t 23]⟩,
 ⟨some 25, none, .mov, [.t 24]⟩,
 ⟨some 26, some (25, false), .fldA 2, [.t 2]⟩,
 ⟨some 27, some (25, false), .load none, [.t 26]⟩,
 ⟨some 28, some (25, false), .lenL, [.t 27]⟩,
 ⟨some 29, some (25, false), .fldA 2, [.t 3]⟩,
 ⟨some 30, some (25, false), .load none, [.t 29]⟩,
 ⟨some 31, some (25, false), .lenL, [.t 30]⟩,
 ⟨some 32, some (25, false), .bin .neq .scal, [.t 28, .t 31]⟩,
 ⟨some 33, none, .pick, [.t 25, .c (.bool true), .t 32]⟩])
 (.cond (.t 33)
 (.seq (.reg []
 [⟨some 4, none, .mov, [.c (.bool false)]⟩])
 .ret)
 .skip))
 (.seq (.seq (.reg []
 [⟨some 5, none, .mov, [.c (.int .i64 0)]⟩])
 (.block 0 (.loop ac22_1)))
 (.seq (.reg []
 [⟨some 4, none, .mov, [.c (.bool true)]⟩])
 .ret)))
theorem i22 : fnInfo Try.prog 22 = some (53, [.t 4], ac22) := by kernel_rfl
def ac23_1 : AC :=
 .seq (.seq (.reg []
 [⟨some 12, none, .mov, [.t 4]⟩,
 ⟨some 13, none, .fldA 2, [.t 1]⟩,
 ⟨some 14, none, .load none, [.t 13]⟩,
 ⟨some 15, none, .lenL, [.t 14]⟩,
 ⟨some 16, none, .bin .lss .scal, [.t 12, .t 15]⟩])
 (.cond (.t 16)
 .skip
 (.exit 0)))
 (.seq (.block 1 (.reg [[], [0], [], [2], [], [3, 4], [5], [6], [7], [1, 8, 7], [0, 1, 2, 3, 4, 5, 6, 7, 8, 9], [10, 9, 9, 0, 1, 2, 3, 4, 5, 6, 7, 8, 9]]
 [⟨some 19, none, .fldA 2, [.t 3]⟩,
 ⟨some 20, none, .load none, [.t 19]⟩,
 ⟨some 21, none, .fldA 2, [.t 1]⟩,
 ⟨some 22, none, .load none, [.t 21]⟩,
 ⟨some 23, none, .mov, [.t 4]⟩,
 ⟨some 24, none, .idxA 7, [.t 22, .t 23]⟩,
 ⟨some 25, none, .load (some 7), [.t 24]⟩,
 ⟨some 26, none, .call 30, [.t 25]⟩,
 ⟨some 27, none, .bslice 7 78, [.t 26]⟩,
 ⟨some 28, none, .append 7 78 72, [.t 20, .t 27]⟩,
 ⟨some 29, none, .fldA 2, [.t 3]⟩,
 ⟨none, none, .store 1, [.t 29, .t 28]⟩]))
 (.reg []
 [⟨some 17, none, .mov, [.t 4]⟩,
 ⟨some 18, none, .bin .add .scal, [.t 17, .c (.int .i64 1)]⟩,
 ⟨some 4, none, .mov, [.t 18]⟩]))
/-- "crossroads/crossroadslaw23.plain": 31 temporaries, 1 parameters, results some [.c 2 (some 4)]. -/
def ac23 : AC :=
 .seq (.reg []
 [⟨some 1, none, .box, [.t 0]⟩,
 ⟨some 2, none, .alloc [.int .i64 0, .int .i64 0, .nils, .bool false], []⟩])
 (.seq (.reg []
 [⟨some 5, none, .fldA 0, [.t 1]⟩,
 ⟨some 6, none, .load none, [.t 5]⟩,
 ⟨some 7, none, .fldA 1, [.t 1]⟩,
 ⟨some 8, none, .load none, [.t 7]⟩,
 ⟨some 9, none, .fldA 3, [.t 1]⟩,
 ⟨some 10, none, .load none, [.t 9]⟩,
 ⟨some 11, none, .build [.int .i64 0, .int .i64 0, .nils, .bool false] [(0, 1), (1, 1), (3, 1)], [.t 6, .t 8, .t 10]⟩,
 ⟨some 3, none, .alloc [.int .i64 0, .int .i64 0, .nils, .bool false], []⟩,
 ⟨none, none, .store 4, [.t 3, .t 11]⟩])
 (.seq (.seq (.reg []
 [⟨some 4, none, .mov, [.c (.int .i64 0)]⟩])
 (.block 0 (.loop ac23_1)))
 (.seq (.reg []
 [⟨some 30, none, .load (some 4), [.t 3]⟩,
 ⟨none, none, .store 4, [.t 2, .t 30]⟩])
 .ret)))
theorem i23 : fnInfo Try.prog 23 = some (31, [.c 2 (some 4)], ac23) := by kernel_rfl
/-- "crossroads/link.New": 24 temporaries, 2 parameters, results some [.c 4 (some 4), .t 5]. -/
def ac24 : AC :=
 .seq (.reg []
 [⟨some 4, none, .alloc [.int .i64 0, .int .i64 0, .nils, .bool false], []⟩,
 ⟨some 5, none, .mov, [.c (.int .i64 0)]⟩])
 (.seq (.seq (.reg []
 [⟨some 6, none, .mov, [.t 0]⟩,
 ⟨some 7, none, .bin .lss .scal, [.t 6, .c (.int .i64 1)]⟩,
 ⟨some 8, none, .mov, [.t 7]⟩,
 ⟨some 9, some (8, false), .mov, [.t 0]⟩,
 ⟨some 10, some (8, false), .bin .gtr .scal, [.t 9, .c (.int .i64 2)]⟩,
 ⟨some 11, none, .pick, [.t 8, .c (.bool true), .t 10]⟩,
 ⟨some 12, none, .mov, [.t 11]⟩,
 ⟨some 13, some (12, false), .mov, [.t 1]⟩,
 ⟨some 14, some (12, false), .bin .lss .scal, [.t 13, .c (.int .i64 1)]⟩,
 ⟨some 15, none, .pick, [.t 12, .c (.bool true), .t 14]⟩,
 ⟨some 16, none, .mov, [.t 15]⟩,
 ⟨some 17, some (16, false), .mov, [.t 1]⟩,
 ⟨some 18, some (16, false), .bin .gtr .scal, [.t 17, .c (.int .i64 1000)]⟩,
 ⟨some 19, none, .pick, [.t 16, .c (.bool true), .t 18]⟩])
 (.cond (.t 19)
 (.seq (.reg []
 [⟨some 20, none, .build [.int .i64 0, .int .i64 0, .nils, .bool false] [], []⟩,
 ⟨none, none, .store 4, [.t 4, .t 20]⟩,
 ⟨some 5, none, .mov, [.c (.int .i64 1)]⟩])
 .ret)
 .skip))
 (.seq (.reg []
 [⟨some 21, none, .mov, [.t 0]⟩,
 ⟨some 22, none, .mov, [.t 1]⟩,
 ⟨some 23, none, .build [.int .i64 0, .int .i64 0, .nils, .bool false] [(0, 1), (1, 1)], [.t 21, .t 22]⟩,
 ⟨none, none, .store 4, [.t 4, .t 23]⟩,
 ⟨some 5, none, .mov, [.c (.int .i64 0)]⟩])
 .ret))
theorem i24 : fnInfo Try.prog 24 = some (24, [.c 4 (some 4), .t 5], ac24) := by kernel_rfl
/-- "crossroads/crossroadsref23.New": 24 temporaries, 2 parameters, results some [.c 4 (some 4), .t 5]. -/
def ac25 : AC :=
 .seq (.reg []
 [⟨some 4, none, .alloc [.int .i64 0, .int .i64 0, .nils, .bool false], []⟩,
 ⟨some 5, none, .mov, [.c (.int .i64 0)]⟩])
 (.seq (.seq (.reg []
 [⟨some 6, none, .mov, [.t 0]⟩,
 ⟨some 7, none, .bin .lss .scal, [.t 6, .c (.int .i64 1)]⟩,
 ⟨some 8, none, .mov, [.t 7]⟩,
 ⟨some 9, some (8, false), .mov, [.t 0]⟩,
 ⟨some 10, some (8, false), .bin .gtr .scal, [.t 9, .c (.int .i64 2)]⟩,
 ⟨some 11, none, .pick, [.t 8, .c (.bool true), .t 10]⟩,
 ⟨some 12, none, .mov, [.t 11]⟩,
 ⟨some 13, some (12, false), .mov, [.t 1]⟩,
 ⟨some 14, some (12, false), .bin .lss .scal, [.t 13, .c (.int .i64 1)]⟩,
 ⟨some 15, none, .pick, [.t 12, .c (.bool true), .t 14]⟩,
 ⟨some 16, none, .mov, [.t 15]⟩,
 ⟨some 17, some (16, false), .mov, [.t 1]⟩,
 ⟨some 18, some (16, false), .bin .gtr .scal, [.t 17, .c (.int .i64 1000)]⟩,
 ⟨some 19, none, .pick, [.t 16, .c (.bool true), .t 18]⟩])
 (.cond (.t 19)
 (.seq (.reg []
 [⟨some 20, none, .build [.int .i64 0, .int .i64 0, .nils, .bool false] [], []⟩,
 ⟨none, none, .store 4, [.t 4, .t 20]⟩,
 ⟨some 5, none, .mov, [.c (.int .i64 1)]⟩])
 .ret)
 .skip))
 (.seq (.reg []
 [⟨some 21, none, .mov, [.t 0]⟩,
 ⟨some 22, none, .mov, [.t 1]⟩,
 ⟨some 23, none, .build [.int .i64 0, .int .i64 0, .nils, .bool false] [(0, 1), (1, 1)], [.t 21, .t 22]⟩,
 ⟨none, none, .store 4, [.t 4, .t 23]⟩,
 ⟨some 5, none, .mov, [.c (.int .i64 0)]⟩])
 .ret))
theorem i25 : fnInfo Try.prog 25 = some (24, [.c 4 (some 4), .t 5], ac25) := by kernel_rfl
def ac26_1 : AC :=
 .seq (.reg []
 [⟨some 16, none, .bin .lss .scal, [.t 15, .t 14]⟩])
 (.seq (.cond (.t 16)
 .skip
 (.exit 0))
 (.seq (.block 1 (.seq (.reg []
 [⟨some 17, none, .mov, [.t 15]⟩,
 ⟨some 18, none, .idxA 7, [.t 13, .t 15]⟩,
 ⟨some 19, none, .load (some 7), [.t 18]⟩,
 ⟨some 9, none, .alloc [.int .i64 0, .int .i64 0, .int .u64 0, .int .u32 0, .int .i64 0, .int .i64 0, .nils], []⟩,
 ⟨some 8, none, .mov, [.t 17]⟩,
 ⟨none, none, .store 7, [.t 9, .t 19]⟩])
 (.seq (.seq (.reg []
 [⟨some 20, none, .mov, [.t 1]⟩,
 ⟨some 21, none, .bin .gtr .scal, [.t 20, .c (.int .i64 0)]⟩])
 (.cond (.t 21)
 (.reg []
 [⟨some 22, none, .mov, [.t 6]⟩,
 ⟨some 23, none, .mov, [.t 8]⟩,
 ⟨some 24, none, .fldA 1, [.t 9]⟩,
 ⟨some 25, none, .load none, [.t 24]⟩,
 ⟨some 26, none, .mov, [.t 1]⟩,
 ⟨some 27, none, .fldA 1, [.t 9]⟩,
 ⟨some 28, none, .load none, [.t 27]⟩,
 ⟨some 29, none, .minmax false, [.t 26, .t 28]⟩,
 ⟨some 30, none, .bin .sub .scal, [.t 25, .t 29]⟩,
 ⟨some 31, none, .idxA 7, [.t 22, .t 23]⟩,
 ⟨some 32, none, .fldA 1, [.t 31]⟩,
 ⟨none, none, .store 1, [.t 32, .t 30]⟩])
 .skip))
 (.seq (.reg []
 [⟨some 33, none, .fldA 1, [.t 9]⟩,
 ⟨some 34, none, .load none, [.t 33]⟩,
 ⟨some 35, none, .bin .gtr .scal, [.t 34, .c (.int .i64 0)]⟩,
 ⟨some 36, none, .mov, [.t 35]⟩,
 ⟨some 37, some (36, true), .mov, [.t 6]⟩,
 ⟨some 38, some (36, true), .mov, [.t 8]⟩,
 ⟨some 39, some (36, true), .idxA 7, [.t 37, .t 38]⟩,
 ⟨some 40, some (36, true), .fldA 1, [.t 39]⟩,
 ⟨some 41, some (36, true), .load none, [.t 40]⟩,
 ⟨some 42, some (36, true), .bin .eql .scal, [.t 41, .c (.int .i64 0)]⟩,
 ⟨some 43, none, .pick, [.t 36, .t 42, .c (.bool false)]⟩])
 (.cond (.t 43)
 (.reg []
 [⟨some 44, none, .mov, [.t 7]⟩,
 ⟨some 45, none, .fldA 2, [.t 9]⟩,
 ⟨some 46, none, .load none, [.t 45]⟩,
 ⟨some 47, none, .bslice 1 22, [.t 46]⟩,
 ⟨some 48, none, .append 1 22 8, [.t 44, .t 47]⟩,
 ⟨some 7, none, .mov, [.t 48]⟩])
 .skip)))))
 (.reg []
 [⟨some 49, none, .bin .add .scal, [.t 15, .c (.int .i64 1)]⟩,
 ⟨some 15, none, .mov, [.t 49]⟩])))
/-- "crossroads/link.Tick": 54 temporaries, 2 parameters, results some [.c 4 (some 4), .t 5]. -/
def ac26 : AC :=
 .seq (.reg []
 [⟨some 2, none, .box, [.t 0]⟩,
 ⟨some 4, none, .alloc [.int .i64 0, .int .i64 0, .nils, .bool false], []⟩,
 ⟨some 5, none, .mov, [.c .nils]⟩])
 (.seq (.reg []
 [⟨some 10, none, .fldA 2, [.t 2]⟩,
 ⟨some 11, none, .load none, [.t 10]⟩,
 ⟨some 12, none, .call 51, [.t 11]⟩,
 ⟨some 6, none, .mov, [.t 12]⟩])
 (.seq (.reg []
 [⟨some 7, none, .mov, [.c .nils]⟩])
 (.seq (.seq (.reg []
 [⟨some 13, none, .mov, [.t 6]⟩,
 ⟨some 14, none, .lenL, [.t 13]⟩,
 ⟨some 15, none, .mov, [.c (.int .i64 0)]⟩])
 (.block 0 (.loop ac26_1)))
 (.seq (.reg []
 [⟨some 50, none, .mov, [.t 6]⟩,
 ⟨some 51, none, .fldA 2, [.t 2]⟩,
 ⟨none, none, .store 1, [.t 51, .t 50]⟩])
 (.seq (.reg []
 [⟨some 52, none, .load (some 4), [.t 2]⟩,
 ⟨some 53, none, .mov, [.t 7]⟩,
 ⟨none, none, .store 4, [.t 4, .t 52]⟩,
 ⟨some 5, none, .mov, [.t 53]⟩])
 .ret)))))
theorem i26 : fnInfo Try.prog 26 = some (54, [.c 4 (some 4), .t 5], ac26) := by kernel_rfl
def ac27_1 : AC :=
 .seq (.seq (.reg []
 [⟨some 12, none, .mov, [.t 8]⟩,
 ⟨some 13, none, .fldA 2, [.t 2]⟩,
 ⟨some 14, none, .load none, [.t 13]⟩,
 ⟨some 15, none, .lenL, [.t 14]⟩,
 ⟨some 16, none, .bin .lss .scal, [.t 12, .t 15]⟩])
 (.cond (.t 16)
 .skip
 (.exit 0)))
 (.seq (.block 1 (.seq (.reg []
 [⟨some 19, none, .fldA 2, [.t 2]⟩,
 ⟨some 20, none, .load none, [.t 19]⟩,
 ⟨some 21, none, .mov, [.t 8]⟩,
 ⟨some 22, none, .idxA 7, [.t 20, .t 21]⟩,
 ⟨some 23, none, .load (some 7), [.t 22]⟩,
 ⟨some 9, none, .alloc [.int .i64 0, .int .i64 0, .int .u64 0, .int .u32 0, .int .i64 0, .int .i64 0, .nils], []⟩,
 ⟨none, none, .store 7, [.t 9, .t 23]⟩])
 (.seq (.seq (.reg []
 [⟨some 24, none, .mov, [.t 1]⟩,
 ⟨some 25, none, .bin .gtr .scal, [.t 24, .c (.int .i64 0)]⟩])
 (.cond (.t 25)
 (.reg []
 [⟨some 26, none, .fldA 1, [.t 9]⟩,
 ⟨some 27, none, .load none, [.t 26]⟩,
 ⟨some 28, none, .mov, [.t 1]⟩,
 ⟨some 29, none, .minmax false, [.t 28, .c (.int .i64 65535)]⟩,
 ⟨some 30, none, .bin .sub .scal, [.t 27, .t 29]⟩,
 ⟨some 31, none, .minmax true, [.c (.int .i64 0), .t 30]⟩,
 ⟨some 32, none, .fldA 1, [.t 9]⟩,
 ⟨none, none, .store 1, [.t 32, .t 31]⟩])
 .skip))
 (.seq (.seq (.reg []
 [⟨some 33, none, .fldA 1, [.t 9]⟩,
 ⟨some 34, none, .load none, [.t 33]⟩,
 ⟨some 35, none, .bin .eql .scal, [.t 34, .c (.int .i64 0)]⟩,
 ⟨some 36, none, .mov, [.t 35]⟩,
 ⟨some 37, some (36, true), .fldA 2, [.t 2]⟩,
 ⟨some 38, some (36, true), .load none, [.t 37]⟩,
 ⟨some 39, some (36, true), .mov, [.t 8]⟩,
 ⟨some 40, some (36, true), .idxA 7, [.t 38, .t 39]⟩,
 ⟨some 41, some (36, true), .fldA 1, [.t 40]⟩,
 ⟨some 42, some (36, true), .load none, [.t 41]⟩,
 ⟨some 43, some (36, true), .bin .gtr .scal, [.t 42, .c (.int .i64 0)]⟩,
 ⟨some 44, none, .pick, [.t 36, .t 43, .c (.bool false)]⟩])
 (.cond (.t 44)
 (.reg []
 [⟨some 45, none, .mov, [.t 7]⟩,
 ⟨some 46, none, .fldA 2, [.t 9]⟩,
 ⟨some 47, none, .load none, [.t 46]⟩,
 ⟨some 48, none, .bslice 1 22, [.t 47]⟩,
 ⟨some 49, none, .append 1 22 8, [.t 45, .t 48]⟩,
 ⟨some 7, none, .mov, [.t 49]⟩])
 .skip))
 (.reg []
 [⟨some 50, none, .mov, [.t 6]⟩,
 ⟨some 51, none, .load (some 7), [.t 9]⟩,
 ⟨some 52, none, .bslice 7 78, [.t 51]⟩,
 ⟨some 53, none, .append 7 78 72, [.t 50, .t 52]⟩,
 ⟨some 6, none, .mov, [.t 53]⟩])))))
 (.reg []
 [⟨some 17, none, .mov, [.t 8]⟩,
 ⟨some 18, none, .bin .add .scal, [.t 17, .c (.int .i64 1)]⟩,
 ⟨some 8, none, .mov, [.t 18]⟩]))
/-- "crossroads/crossroadsref23.Tick": 58 temporaries, 2 parameters, results some [.c 4 (some 4), .t 5]. -/
def ac27 : AC :=
 .seq (.reg []
 [⟨some 2, none, .box, [.t 0]⟩,
 ⟨some 4, none, .alloc [.int .i64 0, .int .i64 0, .nils, .bool false], []⟩,
 ⟨some 5, none, .mov, [.c .nils]⟩])
 (.seq (.reg []
 [⟨some 10, none, .bslice 7 78, []⟩,
 ⟨some 11, none, .bslice 1 22, []⟩,
 ⟨some 6, none, .mov, [.t 10]⟩,
 ⟨some 7, none, .mov, [.t 11]⟩])
 (.seq (.seq (.reg []
 [⟨some 8, none, .mov, [.c (.int .i64 0)]⟩])
 (.block 0 (.loop ac27_1)))
 (.seq (.reg []
 [⟨some 54, none, .mov, [.t 6]⟩,
 ⟨some 55, none, .fldA 2, [.t 2]⟩,
 ⟨none, none, .store 1, [.t 55, .t 54]⟩])
 (.seq (.reg []
 [⟨some 56, none, .load (some 4), [.t 2]⟩,
 ⟨some 57, none, .mov, [.t 7]⟩,
 ⟨none, none, .store 4, [.t 4, .t 56]⟩,
 ⟨some 5, none, .mov, [.t 57]⟩])
 .ret))))
theorem i27 : fnInfo Try.prog 27 = some (58, [.c 4 (some 4), .t 5], ac27) := by kernel_rfl
def ac28_1 : AC :=
 .seq (.seq (.reg []
 [⟨some 11, none, .mov, [.t 5]⟩,
 ⟨some 12, none, .mov, [.t 0]⟩,
 ⟨some 13, none, .lenL, [.t 12]⟩,
 ⟨some 14, none, .bin .lss .scal, [.t 11, .t 13]⟩])
 (.cond (.t 14)
 .skip
 (.exit 0)))
 (.seq (.block 1 (.seq (.reg [[], [], [0, 1], [2], [], [], [4, 5], [6], [3, 7]]
 [⟨some 17, none, .mov, [.t 0]⟩,
 ⟨some 18, none, .mov, [.t 5]⟩,
 ⟨some 19, none, .idxA 1, [.t 17, .t 18]⟩,
 ⟨some 20, none, .load none, [.t 19]⟩,
 ⟨some 21, none, .mov, [.t 1]⟩,
 ⟨some 22, none, .mov, [.t 5]⟩,
 ⟨some 23, none, .idxA 1, [.t 21, .t 22]⟩,
 ⟨some 24, none, .load none, [.t 23]⟩,
 ⟨some 25, none, .bin .neq .scal, [.t 20, .t 24]⟩])
 (.cond (.t 25)
 (.seq (.reg []
 [⟨some 4, none, .mov, [.c (.bool false)]⟩])
 .ret)
 .skip)))
 (.reg []
 [⟨some 15, none, .mov, [.t 5]⟩,
 ⟨some 16, none, .bin .add .scal, [.t 15, .c (.int .i64 1)]⟩,
 ⟨some 5, none, .mov, [.t 16]⟩]))
/-- "crossroads/crossroadsref23.IDs": 26 temporaries, 2 parameters, results some [.t 4]. -/
def ac28 : AC :=
 .seq (.reg []
 [⟨some 4, none, .mov, [.c (.bool false)]⟩])
 (.seq (.seq (.reg []
 [⟨some 6, none, .mov, [.t 0]⟩,
 ⟨some 7, none, .lenL, [.t 6]⟩,
 ⟨some 8, none, .mov, [.t 1]⟩,
 ⟨some 9, none, .lenL, [.t 8]⟩,
 ⟨some 10, none, .bin .neq .scal, [.t 7, .t 9]⟩])
 (.cond (.t 10)
 (.seq (.reg []
 [⟨some 4, none, .mov, [.c (.bool false)]⟩])
 .ret)
 .skip))
 (.seq (.seq (.reg []
 [⟨some 5, none, .mov, [.c (.int .i64 0)]⟩])
 (.block 0 (.loop ac28_1)))
 (.seq (.reg []
 [⟨some 4, none, .mov, [.c (.bool true)]⟩])
 .ret)))
theorem i28 : fnInfo Try.prog 28 = some (26, [.t 4], ac28) := by kernel_rfl
/-- "crossroads/crossroadsref23.Put": 49 temporaries, 2 parameters, results some [.c 4 (some 4), .t 5, .t 6]. -/
def ac29 : AC :=
 .seq (.reg []
 [⟨some 2, none, .box, [.t 0]⟩,
 ⟨some 3, none, .box, [.t 1]⟩,
 ⟨some 4, none, .alloc [.int .i64 0, .int .i64 0, .nils, .bool false], []⟩,
 ⟨some 5, none, .mov, [.c (.int .i64 0)]⟩,
 ⟨some 6, none, .mov, [.c (.int .i64 0)]⟩])
 (.seq (.seq (.reg []
 [⟨some 10, none, .load (some 7), [.t 3]⟩,
 ⟨some 11, none, .fldA 0, [.t 2]⟩,
 ⟨some 12, none, .load none, [.t 11]⟩,
 ⟨some 13, none, .call 53, [.t 10, .t 12]⟩,
 ⟨some 14, none, .unNot, [.t 13]⟩])
 (.cond (.t 14)
 (.seq (.reg []
 [⟨some 15, none, .load (some 4), [.t 2]⟩,
 ⟨none, none, .store 4, [.t 4, .t 15]⟩,
 ⟨some 5, none, .mov, [.c (.int .i64 0)]⟩,
 ⟨some 6, none, .mov, [.c (.int .i64 1)]⟩])
 .ret)
 .skip))
 (.seq (.reg []
 [⟨some 17, none, .load (some 4), [.t 2]⟩,
 ⟨some 18, none, .fldA 2, [.t 3]⟩,
 ⟨some 19, none, .load none, [.t 18]⟩,
 ⟨some 20, none, .call 54, [.t 17, .t 19]⟩,
 ⟨some 16, none, .mov, [.t 20]⟩,
 ⟨some 21, none, .ext 0, [.t 16]⟩,
 ⟨some 22, none, .ext 1, [.t 16]⟩,
 ⟨some 7, none, .alloc [.int .i64 0, .int .i64 0, .int .u64 0, .int .u32 0, .int .i64 0, .int .i64 0, .nils], []⟩,
 ⟨none, none, .store 7, [.t 7, .t 21]⟩,
 ⟨some 8, none, .mov, [.t 22]⟩])
 (.seq (.seq (.reg []
 [⟨some 23, none, .mov, [.t 8]⟩,
 ⟨some 24, none, .unNot, [.t 23]⟩])
 (.cond (.t 24)
 (.seq (.seq (.reg []
 [⟨some 25, none, .fldA 2, [.t 2]⟩,
 ⟨some 26, none, .load none, [.t 25]⟩,
 ⟨some 27, none, .lenL, [.t 26]⟩,
 ⟨some 28, none, .fldA 1, [.t 2]⟩,
 ⟨some 29, none, .load none, [.t 28]⟩,
 ⟨some 30, none, .bin .geq .scal, [.t 27, .t 29]⟩])
 (.cond (.t 30)
 (.seq (.reg []
 [⟨some 31, none, .fldA 3, [.t 2]⟩,
 ⟨none, none, .store 1, [.t 31, .c (.bool true)]⟩])
 (.seq (.reg []
 [⟨some 32, none, .load (some 4), [.t 2]⟩,
 ⟨none, none, .store 4, [.t 4, .t 32]⟩,
 ⟨some 5, none, .mov, [.c (.int .i64 0)]⟩,
 ⟨some 6, none, .mov, [.c (.int .i64 8)]⟩])
 .ret))
 .skip))
 (.seq (.reg []
 [⟨some 33, none, .load (some 4), [.t 2]⟩,
 ⟨some 34, none, .load (some 7), [.t 3]⟩,
 ⟨some 35, none, .call 55, [.t 33, .t 34]⟩,
 ⟨none, none, .store 4, [.t 4, .t 35]⟩,
 ⟨some 5, none, .mov, [.c (.int .i64 3)]⟩,
 ⟨some 6, none, .mov, [.c (.int .i64 0)]⟩])
 .ret))
 .skip))
 (.seq (.reg [[], [0], [], [2, 1], [1, 3, 3], [4, 4, 0, 1, 2, 3, 4]]
 [⟨some 36, none, .load (some 7), [.t 3]⟩,
 ⟨some 37, none, .call 56, [.t 36]⟩,
 ⟨some 38, none, .load (some 7), [.t 7]⟩,
 ⟨some 39, none, .call 56, [.t 38]⟩,
 ⟨some 40, none, .call 9, [.t 37, .t 39]⟩,
 ⟨some 9, none, .mov, [.t 40]⟩])
 (.seq (.seq (.reg []
 [⟨some 41, none, .mov, [.t 9]⟩,
 ⟨some 42, none, .bin .gtr .scal, [.t 41, .c (.int .i64 0)]⟩])
 (.cond (.t 42)
 (.seq (.reg []
 [⟨some 43, none, .load (some 4), [.t 2]⟩,
 ⟨some 44, none, .load (some 7), [.t 3]⟩,
 ⟨some 45, none, .call 55, [.t 43, .t 44]⟩,
 ⟨none, none, .store 4, [.t 4, .t 45]⟩,
 ⟨some 5, none, .mov, [.c (.int .i64 2)]⟩,
 ⟨some 6, none, .mov, [.c (.int .i64 0)]⟩])
 .ret)
 .skip))
 (.seq (.reg []
 [⟨some 46, none, .load (some 4), [.t 2]⟩,
 ⟨some 47, none, .mov, [.t 9]⟩,
 ⟨some 48, none, .bin .add .scal, [.t 47, .c (.int .i64 1)]⟩,
 ⟨none, none, .store 4, [.t 4, .t 46]⟩,
 ⟨some 5, none, .mov, [.t 48]⟩,
 ⟨some 6, none, .mov, [.c (.int .i64 0)]⟩])
 .ret))))))
theorem i29 : fnInfo Try.prog 29 = some (49, [.c 4 (some 4), .t 5, .t 6], ac29) := by kernel_rfl
def ac30_1 : AC :=
 .seq (.seq (.reg []
 [⟨some 6, none, .mov, [.t 4]⟩,
 ⟨some 7, none, .fldA 6, [.t 1]⟩,
 ⟨some 8, none, .load none, [.t 7]⟩,
 ⟨some 9, none, .lenL, [.t 8]⟩,
 ⟨some 10, none, .bin .lss .scal, [.t 6, .t 9]⟩])
 (.cond (.t 10)
 .skip
 (.exit 0)))
 (.seq (.block 1 (.reg [[], [], [1], [], [2, 3], [4], [5], [], [7], [], [8, 9], [10], [11], [6, 12], [13], [0, 14], [15, 15, 0, 1, 2, 3, 4, 5, 6, 7, 8, 9, 10, 11, 12, 13, 14, 15]]
 [⟨some 13, none, .mov, [.t 3]⟩,
 ⟨some 14, none, .fldA 6, [.t 1]⟩,
 ⟨some 15, none, .load none, [.t 14]⟩,
 ⟨some 16, none, .mov, [.t 4]⟩,
 ⟨some 17, none, .idxA 2, [.t 15, .t 16]⟩,
 ⟨some 18, none, .fldA 0, [.t 17]⟩,
 ⟨some 19, none, .load none, [.t 18]⟩,
 ⟨some 20, none, .fldA 6, [.t 1]⟩,
 ⟨some 21, none, .load none, [.t 20]⟩,
 ⟨some 22, none, .mov, [.t 4]⟩,
 ⟨some 23, none, .idxA 2, [.t 21, .t 22]⟩,
 ⟨some 24, none, .fldA 1, [.t 23]⟩,
 ⟨some 25, none, .load none, [.t 24]⟩,
 ⟨some 26, none, .build [.int .i64 0, .nils] [(0, 1), (1, 1)], [.t 19, .t 25]⟩,
 ⟨some 27, none, .bslice 2 117, [.t 26]⟩,
 ⟨some 28, none, .append 2 117 32, [.t 13, .t 27]⟩,
 ⟨some 3, none, .mov, [.t 28]⟩]))
 (.reg []
 [⟨some 11, none, .mov, [.t 4]⟩,
 ⟨some 12, none, .bin .add .scal, [.t 11, .c (.int .i64 1)]⟩,
 ⟨some 4, none, .mov, [.t 12]⟩]))
/-- "crossroads/crossroadslaw23.lsp": 43 temporaries, 1 parameters, results some [.c 2 (some 7)]. -/
def ac30 : AC :=
 .seq (.reg []
 [⟨some 1, none, .box, [.t 0]⟩,
 ⟨some 2, none, .alloc [.int .i64 0, .int .i64 0, .int .u64 0, .int .u32 0, .int .i64 0, .int .i64 0, .nils], []⟩])
 (.seq (.reg []
 [⟨some 5, none, .bslice 2 117, []⟩,
 ⟨some 3, none, .mov, [.t 5]⟩])
 (.seq (.seq (.reg []
 [⟨some 4, none, .mov, [.c (.int .i64 0)]⟩])
 (.block 0 (.loop ac30_1)))
 (.seq (.reg []
 [⟨some 29, none, .fldA 0, [.t 1]⟩,
 ⟨some 30, none, .load none, [.t 29]⟩,
 ⟨some 31, none, .fldA 1, [.t 1]⟩,
 ⟨some 32, none, .load none, [.t 31]⟩,
 ⟨some 33, none, .fldA 2, [.t 1]⟩,
 ⟨some 34, none, .load none, [.t 33]⟩,
 ⟨some 35, none, .fldA 3, [.t 1]⟩,
 ⟨some 36, none, .load none, [.t 35]⟩,
 ⟨some 37, none, .fldA 4, [.t 1]⟩,
 ⟨some 38, none, .load none, [.t 37]⟩,
 ⟨some 39, none, .fldA 5, [.t 1]⟩,
 ⟨some 40, none, .load none, [.t 39]⟩,
 ⟨some 41, none, .mov, [.t 3]⟩,
 ⟨some 42, none, .build [.int .i64 0, .int .i64 0, .int .u64 0, .int .u32 0, .int .i64 0, .int .i64 0, .nils] [(0, 1), (1, 1), (2, 1), (3, 1), (4, 1), (5, 1), (6, 1)], [.t 30, .t 32, .t 34, .t 36, .t 38, .t 40, .t 41]⟩,
 ⟨none, none, .store 7, [.t 2, .t 42]⟩])
 .ret)))
theorem i30 : fnInfo Try.prog 30 = some (43, [.c 2 (some 7)], ac30) := by kernel_rfl
def ac31_1 : AC :=
 .seq (.seq (.reg []
 [⟨some 20, none, .mov, [.t 8]⟩,
 ⟨some 21, none, .fldA 2, [.t 2]⟩,
 ⟨some 22, none, .load none, [.t 21]⟩,
 ⟨some 23, none, .lenL, [.t 22]⟩,
 ⟨some 24, none, .bin .lss .scal, [.t 20, .t 23]⟩])
 (.cond (.t 24)
 .skip
 (.exit 0)))
 (.seq (.block 1 (.seq (.reg []
 [⟨some 27, none, .fldA 2, [.t 2]⟩,
 ⟨some 28, none, .load none, [.t 27]⟩,
 ⟨some 29, none, .mov, [.t 8]⟩,
 ⟨some 30, none, .idxA 7, [.t 28, .t 29]⟩,
 ⟨some 31, none, .load (some 7), [.t 30]⟩,
 ⟨some 32, none, .call 56, [.t 31]⟩,
 ⟨some 9, none, .alloc [.int .i64 0, .int .u64 0, .int .u32 0, .int .i64 0], []⟩,
 ⟨none, none, .store 4, [.t 9, .t 32]⟩])
 (.seq (.reg []
 [⟨some 34, none, .load (some 6), [.t 3]⟩,
 ⟨some 35, none, .fldA 1, [.t 9]⟩,
 ⟨some 36, none, .load none, [.t 35]⟩,
 ⟨some 37, none, .call 57, [.t 34, .t 36]⟩,
 ⟨some 33, none, .mov, [.t 37]⟩,
 ⟨some 38, none, .ext 0, [.t 33]⟩,
 ⟨some 39, none, .ext 1, [.t 33]⟩,
 ⟨some 10, none, .alloc [.int .i64 0, .int .u64 0, .int .u32 0, .int .i64 0], []⟩,
 ⟨none, none, .store 4, [.t 10, .t 38]⟩,
 ⟨some 11, none, .mov, [.t 39]⟩])
 (.seq (.reg []
 [⟨some 40, none, .mov, [.t 11]⟩,
 ⟨some 41, none, .mov, [.t 40]⟩,
 ⟨some 42, some (41, true), .load (some 4), [.t 9]⟩,
 ⟨some 43, some (41, true), .load (some 4), [.t 10]⟩,
 ⟨some 44, some (41, true), .call 9, [.t 42, .t 43]⟩,
 ⟨some 45, some (41, true), .bin .gtr .scal, [.t 44, .c (.int .i64 0)]⟩,
 ⟨some 46, none, .pick, [.t 41, .t 45, .c (.bool false)]⟩,
 ⟨some 47, none, .mov, [.t 46]⟩,
 ⟨some 48, some (47, false), .mov, [.t 11]⟩,
 ⟨some 49, some (47, false), .unNot, [.t 48]⟩,
 ⟨some 50, some (47, false), .mov, [.t 49]⟩,
 ⟨some 51, some (50, true), .fldA 1, [.t 3]⟩,
 ⟨some 52, some (50, true), .load none, [.t 51]⟩,
 ⟨some 53, some (47, false), .pick, [.t 50, .t 52, .c (.bool false)]⟩,
 ⟨some 54, some (47, false), .mov, [.t 53]⟩,
 ⟨some 55, some (54, true), .fldA 1, [.t 9]⟩,
 ⟨some 56, some (54, true), .load none, [.t 55]⟩,
 ⟨some 57, some (54, true), .fldA 3, [.t 3]⟩,
 ⟨some 58, some (54, true), .load none, [.t 57]⟩,
 ⟨some 59, some (54, true), .bin .geq .scal, [.t 56, .t 58]⟩,
 ⟨some 60, some (47, false), .pick, [.t 54, .t 59, .c (.bool false)]⟩,
 ⟨some 61, some (47, false), .mov, [.t 60]⟩,
 ⟨some 62, some (61, true), .fldA 1, [.t 9]⟩,
 ⟨some 63, some (61, true), .load none, [.t 62]⟩,
 ⟨some 64, some (61, true), .fldA 4, [.t 3]⟩,
 ⟨some 65, some (61, true), .load none, [.t 64]⟩,
 ⟨some 66, some (61, true), .bin .leq .scal, [.t 63, .t 65]⟩,
 ⟨some 67, some (47, false), .pick, [.t 61, .t 66, .c (.bool false)]⟩,
 ⟨some 68, none, .pick, [.t 47, .c (.bool true), .t 67]⟩])
 (.cond (.t 68)
 (.reg []
 [⟨some 69, none, .mov, [.t 6]⟩,
 ⟨some 70, none, .fldA 1, [.t 9]⟩,
 ⟨some 71, none, .load none, [.t 70]⟩,
 ⟨some 72, none, .bslice 1 22, [.t 71]⟩,
 ⟨some 73, none, .append 1 22 8, [.t 69, .t 72]⟩,
 ⟨some 6, none, .mov, [.t 73]⟩])
 .skip)))))
 (.reg []
 [⟨some 25, none, .mov, [.t 8]⟩,
 ⟨some 26, none, .bin .add .scal, [.t 25, .c (.int .i64 1)]⟩,
 ⟨some 8, none, .mov, [.t 26]⟩]))
def ac31_2 : AC :=
 .seq (.seq (.reg []
 [⟨some 74, none, .mov, [.t 12]⟩,
 ⟨some 75, none, .fldA 5, [.t 3]⟩,
 ⟨some 76, none, .load none, [.t 75]⟩,
 ⟨some 77, none, .lenL, [.t 76]⟩,
 ⟨some 78, none, .bin .lss .scal, [.t 74, .t 77]⟩])
 (.cond (.t 78)
 .skip
 (.exit 2)))
 (.seq (.block 3 (.seq (.reg []
 [⟨some 81, none, .fldA 5, [.t 3]⟩,
 ⟨some 82, none, .load none, [.t 81]⟩,
 ⟨some 83, none, .mov, [.t 12]⟩,
 ⟨some 84, none, .slice 4 false true, [.t 82, .t 83]⟩,
 ⟨some 85, none, .build [.int .i64 0, .bool false, .int .u64 0, .int .u64 0, .int .u64 0, .nils] [(5, 1)], [.t 84]⟩,
 ⟨some 13, none, .alloc [.int .i64 0, .bool false, .int .u64 0, .int .u64 0, .int .u64 0, .nils], []⟩,
 ⟨none, none, .store 6, [.t 13, .t 85]⟩])
 (.seq (.reg [[], [], [1], [], [2, 3], [4], [5], [0, 6], [7], [8], [8], [], [11, 9, 7, 0, 1, 2, 3, 4, 5, 6, 7, 8, 9, 11], [10, 12, 0, 1, 2, 3, 4, 5, 6, 7, 8, 9, 10, 11, 12]]
 [⟨some 87, none, .load (some 6), [.t 13]⟩,
 ⟨some 88, none, .fldA 5, [.t 3]⟩,
 ⟨some 89, none, .load none, [.t 88]⟩,
 ⟨some 90, none, .mov, [.t 12]⟩,
 ⟨some 91, none, .idxA 4, [.t 89, .t 90]⟩,
 ⟨some 92, none, .fldA 1, [.t 91]⟩,
 ⟨some 93, none, .load none, [.t 92]⟩,
 ⟨some 94, none, .call 57, [.t 87, .t 93]⟩,
 ⟨some 86, none, .mov, [.t 94]⟩,
 ⟨some 95, none, .ext 0, [.t 86]⟩,
 ⟨some 96, none, .ext 1, [.t 86]⟩,
 ⟨some 14, none, .alloc [.int .i64 0, .int .u64 0, .int .u32 0, .int .i64 0], []⟩,
 ⟨none, none, .store 4, [.t 14, .t 95]⟩,
 ⟨some 15, none, .mov, [.t 96]⟩])
 (.seq (.reg [[], [], [1], [], [2, 3], [4], [5], [0, 6], [7], [8], [8], [], [11, 9, 7, 0, 1, 2, 3, 4, 5, 6, 7, 8, 9, 11], [10, 12, 0, 1, 2, 3, 4, 5, 6, 7, 8, 9, 10, 11, 12]]
 [⟨some 98, none, .load (some 4), [.t 2]⟩,
 ⟨some 99, none, .fldA 5, [.t 3]⟩,
 ⟨some 100, none, .load none, [.t 99]⟩,
 ⟨some 101, none, .mov, [.t 12]⟩,
 ⟨some 102, none, .idxA 4, [.t 100, .t 101]⟩,
 ⟨some 103, none, .fldA 1, [.t 102]⟩,
 ⟨some 104, none, .load none, [.t 103]⟩,
 ⟨some 105, none, .call 54, [.t 98, .t 104]⟩,
 ⟨some 97, none, .mov, [.t 105]⟩,
 ⟨some 106, none, .ext 0, [.t 97]⟩,
 ⟨some 107, none, .ext 1, [.t 97]⟩,
 ⟨some 16, none, .alloc [.int .i64 0, .int .i64 0, .int .u64 0, .int .u32 0, .int .i64 0, .int .i64 0, .nils], []⟩,
 ⟨none, none, .store 7, [.t 16, .t 106]⟩,
 ⟨some 17, none, .mov, [.t 107]⟩])
 (.seq (.seq (.reg [[], [0], [1], [2, 1], [1], [3, 4, 1], [5, 1], [6, 1], [7, 1], [1, 8], [9, 1], [10], [11, 10, 10], [12], [13, 12], [12], [14, 15, 12], [16, 12], [12], [18, 12, 12], [17, 19, 19, 12], [20, 12], [12, 21, 10], [10, 22]]
 [⟨some 108, none, .mov, [.t 15]⟩,
 ⟨some 109, none, .mov, [.t 108]⟩,
 ⟨some 110, some (109, false), .fldA 5, [.t 3]⟩,
 ⟨some 111, some (109, false), .load none, [.t 110]⟩,
 ⟨some 112, some (109, false), .mov, [.t 12]⟩,
 ⟨some 113, some (109, false), .idxA 4, [.t 111, .t 112]⟩,
 ⟨some 114, some (109, false), .fldA 0, [.t 113]⟩,
 ⟨some 115, some (109, false), .load none, [.t 114]⟩,
 ⟨some 116, some (109, false), .bin .eql .scal, [.t 115, .c (.int .i64 0)]⟩,
 ⟨some 117, none, .pick, [.t 109, .c (.bool true), .t 116]⟩,
 ⟨some 118, none, .mov, [.t 117]⟩,
 ⟨some 119, some (118, false), .mov, [.t 17]⟩,
 ⟨some 120, some (118, false), .mov, [.t 119]⟩,
 ⟨some 121, some (120, true), .fldA 5, [.t 3]⟩,
 ⟨some 122, some (120, true), .load none, [.t 121]⟩,
 ⟨some 123, some (120, true), .mov, [.t 12]⟩,
 ⟨some 124, some (120, true), .idxA 4, [.t 122, .t 123]⟩,
 ⟨some 125, some (120, true), .load (some 4), [.t 124]⟩,
 ⟨some 126, some (120, true), .load (some 7), [.t 16]⟩,
 ⟨some 127, some (120, true), .call 56, [.t 126]⟩,
 ⟨some 128, some (120, true), .call 9, [.t 125, .t 127]⟩,
 ⟨some 129, some (120, true), .bin .leq .scal, [.t 128, .c (.int .i64 0)]⟩,
 ⟨some 130, some (118, false), .pick, [.t 120, .t 129, .c (.bool false)]⟩,
 ⟨some 131, none, .pick, [.t 118, .c (.bool true), .t 130]⟩])
 (.cond (.t 131)
 (.exit 3)
 .skip))
 (.seq (.reg []
 [⟨some 132, none, .mov, [.t 17]⟩])
 (.cond (.t 132)
 (.reg []
 [⟨some 133, none, .mov, [.t 7]⟩,
 ⟨some 134, none, .load (some 7), [.t 16]⟩,
 ⟨some 135, none, .call 56, [.t 134]⟩,
 ⟨some 136, none, .bslice 4 28, [.t 135]⟩,
 ⟨some 137, none, .append 4 28 32, [.t 133, .t 136]⟩,
 ⟨some 7, none, .mov, [.t 137]⟩])
 (.reg []
 [⟨some 138, none, .mov, [.t 7]⟩,
 ⟨some 139, none, .fldA 5, [.t 3]⟩,
 ⟨some 140, none, .load none, [.t 139]⟩,
 ⟨some 141, none, .mov, [.t 12]⟩,
 ⟨some 142, none, .idxA 4, [.t 140, .t 141]⟩,
 ⟨some 143, none, .fldA 1, [.t 142]⟩,
 ⟨some 144, none, .load none, [.t 143]⟩,
 ⟨some 145, none, .build [.int .i64 0, .int .u64 0, .int .u32 0, .int .i64 0] [(1, 1)], [.t 144]⟩,
 ⟨some 146, none, .bslice 4 28, [.t 145]⟩,
 ⟨some 147, none, .append 4 28 32, [.t 138, .t 146]⟩,
 ⟨some 7, none, .mov, [.t 147]⟩]))))))))
 (.reg []
 [⟨some 79, none, .mov, [.t 12]⟩,
 ⟨some 80, none, .bin .add .scal, [.t 79, .c (.int .i64 1)]⟩,
 ⟨some 12, none, .mov, [.t 80]⟩]))
/-- "crossroads/crossroadsref23.Differ": 150 temporaries, 2 parameters, results some [.t 4, .t 5]. -/
def ac31 : AC :=
 .seq (.reg []
 [⟨some 2, none, .box, [.t 0]⟩,
 ⟨some 3, none, .box, [.t 1]⟩,
 ⟨some 4, none, .mov, [.c .nils]⟩,
 ⟨some 5, none, .mov, [.c .nils]⟩])
 (.seq (.reg []
 [⟨some 18, none, .bslice 1 22, []⟩,
 ⟨some 19, none, .bslice 4 28, []⟩,
 ⟨some 6, none, .mov, [.t 18]⟩,
 ⟨some 7, none, .mov, [.t 19]⟩])
 (.seq (.seq (.reg []
 [⟨some 8, none, .mov, [.c (.int .i64 0)]⟩])
 (.block 0 (.loop ac31_1)))
 (.seq (.seq (.reg []
 [⟨some 12, none, .mov, [.c (.int .i64 0)]⟩])
 (.block 2 (.loop ac31_2)))
 (.seq (.reg []
 [⟨some 148, none, .mov, [.t 6]⟩,
 ⟨some 149, none, .mov, [.t 7]⟩,
 ⟨some 4, none, .mov, [.t 148]⟩,
 ⟨some 5, none, .mov, [.t 149]⟩])
 .ret))))
theorem i31 : fnInfo Try.prog 31 = some (150, [.t 4, .t 5], ac31) := by kernel_rfl
/-- "crossroads/crossroadslaw23.list": 17 temporaries, 1 parameters, results some [.c 2 (some 6)]. -/
def ac32 : AC :=
 .seq (.reg []
 [⟨some 1, none, .box, [.t 0]⟩,
 ⟨some 2, none, .alloc [.int .i64 0, .bool false, .int .u64 0, .int .u64 0, .int .u64 0, .nils], []⟩])
 (.seq (.reg [[], [0], [], [2], [], [4], [], [6], [], [8], [], [10], [11], [1, 3, 5, 7, 9, 12], [13, 12, 0, 1, 2, 3, 4, 5, 6, 7, 8, 9, 10, 11, 12, 13]]
 [⟨some 3, none, .fldA 0, [.t 1]⟩,
 ⟨some 4, none, .load none, [.t 3]⟩,
 ⟨some 5, none, .fldA 1, [.t 1]⟩,
 ⟨some 6, none, .load none, [.t 5]⟩,
 ⟨some 7, none, .fldA 2, [.t 1]⟩,
 ⟨some 8, none, .load none, [.t 7]⟩,
 ⟨some 9, none, .fldA 3, [.t 1]⟩,
 ⟨some 10, none, .load none, [.t 9]⟩,
 ⟨some 11, none, .fldA 4, [.t 1]⟩,
 ⟨some 12, none, .load none, [.t 11]⟩,
 ⟨some 13, none, .fldA 5, [.t 1]⟩,
 ⟨some 14, none, .load none, [.t 13]⟩,
 ⟨some 15, none, .call 34, [.t 14]⟩,
 ⟨some 16, none, .build [.int .i64 0, .bool false, .int .u64 0, .int .u64 0, .int .u64 0, .nils] [(0, 1), (1, 1), (2, 1), (3, 1), (4, 1), (5, 1)], [.t 4, .t 6, .t 8, .t 10, .t 12, .t 15]⟩,
 ⟨none, none, .store 6, [.t 2, .t 16]⟩])
 .ret)
theorem i32 : fnInfo Try.prog 32 = some (17, [.c 2 (some 6)], ac32) := by kernel_rfl
def ac33_1 : AC :=
 .seq (.seq (.reg []
 [⟨some 11, none, .mov, [.t 5]⟩,
 ⟨some 12, none, .mov, [.t 0]⟩,
 ⟨some 13, none, .lenL, [.t 12]⟩,
 ⟨some 14, none, .bin .lss .scal, [.t 11, .t 13]⟩])
 (.cond (.t 14)
 .skip
 (.exit 0)))
 (.seq (.block 1 (.seq (.reg [[], [], [0, 1], [2], [], [], [4, 5], [6], [3, 7]]
 [⟨some 17, none, .mov, [.t 0]⟩,
 ⟨some 18, none, .mov, [.t 5]⟩,
 ⟨some 19, none, .idxA 4, [.t 17, .t 18]⟩,
 ⟨some 20, none, .load (some 4), [.t 19]⟩,
 ⟨some 21, none, .mov, [.t 1]⟩,
 ⟨some 22, none, .mov, [.t 5]⟩,
 ⟨some 23, none, .idxA 4, [.t 21, .t 22]⟩,
 ⟨some 24, none, .load (some 4), [.t 23]⟩,
 ⟨some 25, none, .bin .neq (.flat [.int .i64, .int .u64, .int .u32, .int .i64]), [.t 20, .t 24]⟩])
 (.cond (.t 25)
 (.seq (.reg []
 [⟨some 4, none, .mov, [.c (.bool false)]⟩])
 .ret)
 .skip)))
 (.reg []
 [⟨some 15, none, .mov, [.t 5]⟩,
 ⟨some 16, none, .bin .add .scal, [.t 15, .c (.int .i64 1)]⟩,
 ⟨some 5, none, .mov, [.t 16]⟩]))
/-- "crossroads/crossroadsref22.Entries": 26 temporaries, 2 parameters, results some [.t 4]. -/
def ac33 : AC :=
 .seq (.reg []
 [⟨some 4, none, .mov, [.c (.bool false)]⟩])
 (.seq (.seq (.reg []
 [⟨some 6, none, .mov, [.t 0]⟩,
 ⟨some 7, none, .lenL, [.t 6]⟩,
 ⟨some 8, none, .mov, [.t 1]⟩,
 ⟨some 9, none, .lenL, [.t 8]⟩,
 ⟨some 10, none, .bin .neq .scal, [.t 7, .t 9]⟩])
 (.cond (.t 10)
 (.seq (.reg []
 [⟨some 4, none, .mov, [.c (.bool false)]⟩])
 .ret)
 .skip))
 (.seq (.seq (.reg []
 [⟨some 5, none, .mov, [.c (.int .i64 0)]⟩])
 (.block 0 (.loop ac33_1)))
 (.seq (.reg []
 [⟨some 4, none, .mov, [.c (.bool true)]⟩])
 .ret)))
theorem i33 : fnInfo Try.prog 33 = some (26, [.t 4], ac33) := by kernel_rfl
def ac34_1 : AC :=
 .seq (.seq (.reg []
 [⟨some 6, none, .mov, [.t 4]⟩,
 ⟨some 7, none, .mov, [.t 0]⟩,
 ⟨some 8, none, .lenL, [.t 7]⟩,
 ⟨some 9, none, .bin .lss .scal, [.t 6, .t 8]⟩])
 (.cond (.t 9)
 .skip
 (.exit 0)))
 (.seq (.block 1 (.reg []
 [⟨some 12, none, .mov, [.t 3]⟩,
 ⟨some 13, none, .mov, [.t 0]⟩,
 ⟨some 14, none, .mov, [.t 4]⟩,
 ⟨some 15, none, .idxA 4, [.t 13, .t 14]⟩,
 ⟨some 16, none, .load (some 4), [.t 15]⟩,
 ⟨some 17, none, .call 10, [.t 16]⟩,
 ⟨some 18, none, .bslice 4 28, [.t 17]⟩,
 ⟨some 19, none, .append 4 28 32, [.t 12, .t 18]⟩,
 ⟨some 3, none, .mov, [.t 19]⟩]))
 (.reg []
 [⟨some 10, none, .mov, [.t 4]⟩,
 ⟨some 11, none, .bin .add .scal, [.t 10, .c (.int .i64 1)]⟩,
 ⟨some 4, none, .mov, [.t 11]⟩]))
/-- "crossroads/crossroadslaw23.rows": 21 temporaries, 1 parameters, results some [.t 2]. -/
def ac34 : AC :=
 .seq (.reg []
 [⟨some 2, none, .mov, [.c .nils]⟩])
 (.seq (.reg []
 [⟨some 5, none, .bslice 4 28, []⟩,
 ⟨some 3, none, .mov, [.t 5]⟩])
 (.seq (.seq (.reg []
 [⟨some 4, none, .mov, [.c (.int .i64 0)]⟩])
 (.block 0 (.loop ac34_1)))
 (.seq (.reg []
 [⟨some 20, none, .mov, [.t 3]⟩,
 ⟨some 2, none, .mov, [.t 20]⟩])
 .ret)))
theorem i34 : fnInfo Try.prog 34 = some (21, [.t 2], ac34) := by kernel_rfl
def ac35_1 : AC :=
 .seq (.seq (.reg []
 [⟨some 10, none, .mov, [.t 8]⟩,
 ⟨some 11, none, .fldA 2, [.t 3]⟩,
 ⟨some 12, none, .load none, [.t 11]⟩,
 ⟨some 13, none, .lenL, [.t 12]⟩,
 ⟨some 14, none, .bin .lss .scal, [.t 10, .t 13]⟩])
 (.cond (.t 14)
 .skip
 (.exit 0)))
 (.seq (.block 1 (.seq (.reg []
 [⟨some 17, none, .fldA 2, [.t 3]⟩,
 ⟨some 18, none, .load none, [.t 17]⟩,
 ⟨some 19, none, .mov, [.t 8]⟩,
 ⟨some 20, none, .idxA 7, [.t 18, .t 19]⟩,
 ⟨some 21, none, .fldA 2, [.t 20]⟩,
 ⟨some 22, none, .load none, [.t 21]⟩,
 ⟨some 23, none, .mov, [.t 1]⟩,
 ⟨some 24, none, .bin .geq .scal, [.t 22, .t 23]⟩,
 ⟨some 25, none, .mov, [.t 24]⟩,
 ⟨some 26, some (25, true), .fldA 2, [.t 3]⟩,
 ⟨some 27, some (25, true), .load none, [.t 26]⟩,
 ⟨some 28, some (25, true), .mov, [.t 8]⟩,
 ⟨some 29, some (25, true), .idxA 7, [.t 27, .t 28]⟩,
 ⟨some 30, some (25, true), .fldA 2, [.t 29]⟩,
 ⟨some 31, some (25, true), .load none, [.t 30]⟩,
 ⟨some 32, some (25, true), .mov, [.t 2]⟩,
 ⟨some 33, some (25, true), .bin .leq .scal, [.t 31, .t 32]⟩,
 ⟨some 34, none, .pick, [.t 25, .t 33, .c (.bool false)]⟩])
 (.cond (.t 34)
 (.reg []
 [⟨some 35, none, .mov, [.t 7]⟩,
 ⟨some 36, none, .fldA 2, [.t 3]⟩,
 ⟨some 37, none, .load none, [.t 36]⟩,
 ⟨some 38, none, .mov, [.t 8]⟩,
 ⟨some 39, none, .idxA 7, [.t 37, .t 38]⟩,
 ⟨some 40, none, .load (some 7), [.t 39]⟩,
 ⟨some 41, none, .call 56, [.t 40]⟩,
 ⟨some 42, none, .bslice 4 28, [.t 41]⟩,
 ⟨some 43, none, .append 4 28 32, [.t 35, .t 42]⟩,
 ⟨some 7, none, .mov, [.t 43]⟩])
 .skip)))
 (.reg []
 [⟨some 15, none, .mov, [.t 8]⟩,
 ⟨some 16, none, .bin .add .scal, [.t 15, .c (.int .i64 1)]⟩,
 ⟨some 8, none, .mov, [.t 16]⟩]))
/-- "crossroads/crossroadsref23.List": 45 temporaries, 3 parameters, results some [.t 6]. -/
def ac35 : AC :=
 .seq (.reg []
 [⟨some 3, none, .box, [.t 0]⟩,
 ⟨some 6, none, .mov, [.c .nils]⟩])
 (.seq (.reg []
 [⟨some 9, none, .bslice 4 28, []⟩,
 ⟨some 7, none, .mov, [.t 9]⟩])
 (.seq (.seq (.reg []
 [⟨some 8, none, .mov, [.c (.int .i64 0)]⟩])
 (.block 0 (.loop ac35_1)))
 (.seq (.reg []
 [⟨some 44, none, .mov, [.t 7]⟩,
 ⟨some 6, none, .mov, [.t 44]⟩])
 .ret)))
theorem i35 : fnInfo Try.prog 35 = some (45, [.t 6], ac35) := by kernel_rfl
def ac36_1 : AC :=
 .seq (.reg []
 [⟨some 11, none, .bin .lss .scal, [.t 10, .t 9]⟩])
 (.seq (.cond (.t 11)
 .skip
 (.exit 0))
 (.seq (.block 1 (.seq (.reg []
 [⟨some 12, none, .mov, [.t 10]⟩,
 ⟨some 13, none, .idxA 7, [.t 8, .t 10]⟩,
 ⟨some 14, none, .load (some 7), [.t 13]⟩,
 ⟨some 4, none, .alloc [.int .i64 0, .int .i64 0, .int .u64 0, .int .u32 0, .int .i64 0, .int .i64 0, .nils], []⟩,
 ⟨some 3, none, .mov, [.t 12]⟩,
 ⟨none, none, .store 7, [.t 4, .t 14]⟩])
 (.seq (.reg [[], [], [0, 1], [2], [3, 2], [4], [5, 4], [6, 4, 4], [7], [8, 7], [7], [10, 7], [9, 11, 7], [12, 7], [13, 7], [7], [15, 7], [14, 16, 7], [7, 17, 4], [4, 18]]
 [⟨some 15, none, .load (some 4), [.t 1]⟩,
 ⟨some 16, none, .load (some 7), [.t 4]⟩,
 ⟨some 17, none, .call 48, [.t 15, .t 16]⟩,
 ⟨some 18, none, .unNot, [.t 17]⟩,
 ⟨some 19, none, .mov, [.t 18]⟩,
 ⟨some 20, some (19, false), .mov, [.t 3]⟩,
 ⟨some 21, some (19, false), .bin .gtr .scal, [.t 20, .c (.int .i64 0)]⟩,
 ⟨some 22, some (19, false), .mov, [.t 21]⟩,
 ⟨some 23, some (22, true), .fldA 2, [.t 1]⟩,
 ⟨some 24, some (22, true), .load none, [.t 23]⟩,
 ⟨some 25, some (22, true), .mov, [.t 3]⟩,
 ⟨some 26, some (22, true), .bin .sub .scal, [.t 25, .c (.int .i64 1)]⟩,
 ⟨some 27, some (22, true), .idxA 7, [.t 24, .t 26]⟩,
 ⟨some 28, some (22, true), .fldA 2, [.t 27]⟩,
 ⟨some 29, some (22, true), .load none, [.t 28]⟩,
 ⟨some 30, some (22, true), .fldA 2, [.t 4]⟩,
 ⟨some 31, some (22, true), .load none, [.t 30]⟩,
 ⟨some 32, some (22, true), .bin .geq .scal, [.t 29, .t 31]⟩,
 ⟨some 33, some (19, false), .pick, [.t 22, .t 32, .c (.bool false)]⟩,
 ⟨some 34, none, .pick, [.t 19, .c (.bool true), .t 33]⟩])
 (.cond (.t 34)
 (.seq (.reg []
 [⟨some 2, none, .mov, [.c (.bool false)]⟩])
 .ret)
 .skip))))
 (.reg []
 [⟨some 35, none, .bin .add .scal, [.t 10, .c (.int .i64 1)]⟩,
 ⟨some 10, none, .mov, [.t 35]⟩])))
/-- "crossroads/link.May": 54 temporaries, 1 parameters, results some [.t 2]. -/
def ac36 : AC :=
 .seq (.reg []
 [⟨some 1, none, .box, [.t 0]⟩,
 ⟨some 2, none, .mov, [.c (.bool false)]⟩])
 (.seq (.seq (.reg []
 [⟨some 7, none, .fldA 2, [.t 1]⟩,
 ⟨some 8, none, .load none, [.t 7]⟩,
 ⟨some 9, none, .lenL, [.t 8]⟩,
 ⟨some 10, none, .mov, [.c (.int .i64 0)]⟩])
 (.block 0 (.loop ac36_1)))
 (.seq (.reg []
 [⟨some 37, none, .fldA 0, [.t 1]⟩,
 ⟨some 38, none, .load none, [.t 37]⟩,
 ⟨some 39, none, .fldA 1, [.t 1]⟩,
 ⟨some 40, none, .load none, [.t 39]⟩,
 ⟨some 41, none, .call 24, [.t 38, .t 40]⟩,
 ⟨some 36, none, .mov, [.t 41]⟩,
 ⟨some 42, none, .ext 0, [.t 36]⟩,
 ⟨some 43, none, .ext 1, [.t 36]⟩,
 ⟨some 5, none, .alloc [.int .i64 0, .int .i64 0, .nils, .bool false], []⟩,
 ⟨none, none, .store 4, [.t 5, .t 42]⟩,
 ⟨some 6, none, .mov, [.t 43]⟩])
 (.seq (.reg []
 [⟨some 44, none, .mov, [.t 6]⟩,
 ⟨some 45, none, .bin .eql .scal, [.t 44, .c (.int .i64 0)]⟩,
 ⟨some 46, none, .mov, [.t 45]⟩,
 ⟨some 47, some (46, true), .fldA 2, [.t 1]⟩,
 ⟨some 48, some (46, true), .load none, [.t 47]⟩,
 ⟨some 49, some (46, true), .lenL, [.t 48]⟩,
 ⟨some 50, some (46, true), .fldA 1, [.t 1]⟩,
 ⟨some 51, some (46, true), .load none, [.t 50]⟩,
 ⟨some 52, some (46, true), .bin .leq .scal, [.t 49, .t 51]⟩,
 ⟨some 53, none, .pick, [.t 46, .t 52, .c (.bool false)]⟩,
 ⟨some 2, none, .mov, [.t 53]⟩])
 .ret)))
theorem i36 : fnInfo Try.prog 36 = some (54, [.t 2], ac36) := by kernel_rfl
def ac37_1 : AC :=
 .seq (.reg []
 [⟨some 9, none, .bin .lss .scal, [.t 8, .t 7]⟩])
 (.seq (.cond (.t 9)
 .skip
 (.exit 0))
 (.seq (.block 1 (.seq (.reg []
 [⟨some 10, none, .idxA 1, [.t 6, .t 8]⟩,
 ⟨some 11, none, .load none, [.t 10]⟩,
 ⟨some 5, none, .mov, [.t 11]⟩])
 (.seq (.reg []
 [⟨some 12, none, .mov, [.t 5]⟩,
 ⟨some 13, none, .mov, [.t 3]⟩,
 ⟨some 14, none, .bin .neq .scal, [.t 12, .t 13]⟩])
 (.cond (.t 14)
 (.seq (.reg []
 [⟨some 15, none, .mov, [.t 5]⟩,
 ⟨some 2, none, .mov, [.t 15]⟩])
 .ret)
 .skip))))
 (.reg []
 [⟨some 16, none, .bin .add .scal, [.t 8, .c (.int .i64 1)]⟩,
 ⟨some 8, none, .mov, [.t 16]⟩])))
/-- "cmp.Or[int]": 18 temporaries, 1 parameters, results some [.t 2]. -/
def ac37 : AC :=
 .seq (.reg []
 [⟨some 2, none, .mov, [.c (.int .i64 0)]⟩])
 (.seq (.reg []
 [⟨some 3, none, .mov, [.c (.int .i64 0)]⟩])
 (.seq (.seq (.reg []
 [⟨some 6, none, .mov, [.t 0]⟩,
 ⟨some 7, none, .lenL, [.t 6]⟩,
 ⟨some 8, none, .mov, [.c (.int .i64 0)]⟩])
 (.block 0 (.loop ac37_1)))
 (.seq (.reg []
 [⟨some 17, none, .mov, [.t 3]⟩,
 ⟨some 2, none, .mov, [.t 17]⟩])
 .ret)))
theorem i37 : fnInfo Try.prog 37 = some (18, [.t 2], ac37) := by kernel_rfl
/-- "cmp.Compare[uint32]": 20 temporaries, 2 parameters, results some [.t 4]. -/
def ac38 : AC :=
 .seq (.reg []
 [⟨some 4, none, .mov, [.c (.int .i64 0)]⟩])
 (.seq (.reg []
 [⟨some 7, none, .mov, [.t 0]⟩,
 ⟨some 8, none, .call 58, [.t 7]⟩,
 ⟨some 5, none, .mov, [.t 8]⟩])
 (.seq (.reg []
 [⟨some 9, none, .mov, [.t 1]⟩,
 ⟨some 10, none, .call 58, [.t 9]⟩,
 ⟨some 6, none, .mov, [.t 10]⟩])
 (.seq (.seq (.reg []
 [⟨some 11, none, .mov, [.t 5]⟩])
 (.cond (.t 11)
 (.seq (.seq (.reg []
 [⟨some 12, none, .mov, [.t 6]⟩])
 (.cond (.t 12)
 (.seq (.reg []
 [⟨some 4, none, .mov, [.c (.int .i64 0)]⟩])
 .ret)
 .skip))
 (.seq (.reg []
 [⟨some 4, none, .mov, [.c (.int .i64 (-1))]⟩])
 .ret))
 .skip))
 (.seq (.seq (.reg []
 [⟨some 13, none, .mov, [.t 6]⟩])
 (.cond (.t 13)
 (.seq (.reg []
 [⟨some 4, none, .mov, [.c (.int .i64 1)]⟩])
 .ret)
 .skip))
 (.seq (.seq (.reg []
 [⟨some 14, none, .mov, [.t 0]⟩,
 ⟨some 15, none, .mov, [.t 1]⟩,
 ⟨some 16, none, .bin .lss .scal, [.t 14, .t 15]⟩])
 (.cond (.t 16)
 (.seq (.reg []
 [⟨some 4, none, .mov, [.c (.int .i64 (-1))]⟩])
 .ret)
 .skip))
 (.seq (.seq (.reg []
 [⟨some 17, none, .mov, [.t 0]⟩,
 ⟨some 18, none, .mov, [.t 1]⟩,
 ⟨some 19, none, .bin .gtr .scal, [.t 17, .t 18]⟩])
 (.cond (.t 19)
 (.seq (.reg []
 [⟨some 4, none, .mov, [.c (.int .i64 1)]⟩])
 .ret)
 .skip))
 (.seq (.reg []
 [⟨some 4, none, .mov, [.c (.int .i64 0)]⟩])
 .ret)))))))
theorem i38 : fnInfo Try.prog 38 = some (20, [.t 4], ac38) := by kernel_rfl
/-- "crossroads/link.over": 6 temporaries, 1 parameters, results some [.t 2]. -/
def ac39 : AC :=
 .seq (.reg []
 [⟨some 1, none, .box, [.t 0]⟩,
 ⟨some 2, none, .mov, [.c (.int .i64 0)]⟩])
 (.seq (.seq (.reg []
 [⟨some 3, none, .fldA 0, [.t 1]⟩,
 ⟨some 4, none, .load none, [.t 3]⟩,
 ⟨some 5, none, .bin .eql .scal, [.t 4, .c (.int .i64 0)]⟩])
 (.cond (.t 5)
 (.seq (.reg []
 [⟨some 2, none, .mov, [.c (.int .i64 1)]⟩])
 .ret)
 .skip))
 (.seq (.reg []
 [⟨some 2, none, .mov, [.c (.int .i64 0)]⟩])
 .ret))
theorem i39 : fnInfo Try.prog 39 = some (6, [.t 2], ac39) := by kernel_rfl
/-- "cmp.Compare[int]": 20 temporaries, 2 parameters, results some [.t 4]. -/
def ac40 : AC :=
 .seq (.reg []
 [⟨some 4, none, .mov, [.c (.int .i64 0)]⟩])
 (.seq (.reg []
 [⟨some 7, none, .mov, [.t 0]⟩,
 ⟨some 8, none, .call 59, [.t 7]⟩,
 ⟨some 5, none, .mov, [.t 8]⟩])
 (.seq (.reg []
 [⟨some 9, none, .mov, [.t 1]⟩,
 ⟨some 10, none, .call 59, [.t 9]⟩,
 ⟨some 6, none, .mov, [.t 10]⟩])
 (.seq (.seq (.reg []
 [⟨some 11, none, .mov, [.t 5]⟩])
 (.cond (.t 11)
 (.seq (.seq (.reg []
 [⟨some 12, none, .mov, [.t 6]⟩])
 (.cond (.t 12)
 (.seq (.reg []
 [⟨some 4, none, .mov, [.c (.int .i64 0)]⟩])
 .ret)
 .skip))
 (.seq (.reg []
 [⟨some 4, none, .mov, [.c (.int .i64 (-1))]⟩])
 .ret))
 .skip))
 (.seq (.seq (.reg []
 [⟨some 13, none, .mov, [.t 6]⟩])
 (.cond (.t 13)
 (.seq (.reg []
 [⟨some 4, none, .mov, [.c (.int .i64 1)]⟩])
 .ret)
 .skip))
 (.seq (.seq (.reg []
 [⟨some 14, none, .mov, [.t 0]⟩,
 ⟨some 15, none, .mov, [.t 1]⟩,
 ⟨some 16, none, .bin .lss .scal, [.t 14, .t 15]⟩])
 (.cond (.t 16)
 (.seq (.reg []
 [⟨some 4, none, .mov, [.c (.int .i64 (-1))]⟩])
 .ret)
 .skip))
 (.seq (.seq (.reg []
 [⟨some 17, none, .mov, [.t 0]⟩,
 ⟨some 18, none, .mov, [.t 1]⟩,
 ⟨some 19, none, .bin .gtr .scal, [.t 17, .t 18]⟩])
 (.cond (.t 19)
 (.seq (.reg []
 [⟨some 4, none, .mov, [.c (.int .i64 1)]⟩])
 .ret)
 .skip))
 (.seq (.reg []
 [⟨some 4, none, .mov, [.c (.int .i64 0)]⟩])
 .ret)))))))
theorem i40 : fnInfo Try.prog 40 = some (20, [.t 4], ac40) := by kernel_rfl
/-- "crossroads/crossroadsref23.more": 4 temporaries, 1 parameters, results some [.t 2]. -/
def ac41 : AC :=
 .seq (.reg []
 [⟨some 2, none, .mov, [.c (.int .i64 0)]⟩])
 (.seq (.seq (.reg []
 [⟨some 3, none, .mov, [.t 0]⟩])
 (.cond (.t 3)
 (.seq (.reg []
 [⟨some 2, none, .mov, [.c (.int .i64 1)]⟩])
 .ret)
 .skip))
 (.seq (.reg []
 [⟨some 2, none, .mov, [.c (.int .i64 (-1))]⟩])
 .ret))
theorem i41 : fnInfo Try.prog 41 = some (4, [.t 2], ac41) := by kernel_rfl
/-- "crossroads/link.Find": 22 temporaries, 2 parameters, results some [.c 4 (some 7), .t 5]. -/
def ac47 : AC :=
 .seq (.reg []
 [⟨some 2, none, .box, [.t 0]⟩,
 ⟨some 4, none, .alloc [.int .i64 0, .int .i64 0, .int .u64 0, .int .u32 0, .int .i64 0, .int .i64 0, .nils], []⟩,
 ⟨some 5, none, .mov, [.c (.bool false)]⟩])
 (.seq (.reg []
 [⟨some 9, none, .load (some 4), [.t 2]⟩,
 ⟨some 10, none, .mov, [.t 1]⟩,
 ⟨some 11, none, .call 49, [.t 9, .t 10]⟩,
 ⟨some 8, none, .mov, [.t 11]⟩,
 ⟨some 12, none, .ext 0, [.t 8]⟩,
 ⟨some 13, none, .ext 1, [.t 8]⟩,
 ⟨some 6, none, .mov, [.t 12]⟩,
 ⟨some 7, none, .mov, [.t 13]⟩])
 (.seq (.seq (.reg []
 [⟨some 14, none, .mov, [.t 7]⟩,
 ⟨some 15, none, .unNot, [.t 14]⟩])
 (.cond (.t 15)
 (.seq (.reg []
 [⟨some 16, none, .build [.int .i64 0, .int .i64 0, .int .u64 0, .int .u32 0, .int .i64 0, .int .i64 0, .nils] [], []⟩,
 ⟨none, none, .store 7, [.t 4, .t 16]⟩,
 ⟨some 5, none, .mov, [.c (.bool false)]⟩])
 .ret)
 .skip))
 (.seq (.reg []
 [⟨some 17, none, .fldA 2, [.t 2]⟩,
 ⟨some 18, none, .load none, [.t 17]⟩,
 ⟨some 19, none, .mov, [.t 6]⟩,
 ⟨some 20, none, .idxA 7, [.t 18, .t 19]⟩,
 ⟨some 21, none, .load (some 7), [.t 20]⟩,
 ⟨none, none, .store 7, [.t 4, .t 21]⟩,
 ⟨some 5, none, .mov, [.c (.bool true)]⟩])
 .ret)))
theorem i47 : fnInfo Try.prog 47 = some (22, [.c 4 (some 7), .t 5], ac47) := by kernel_rfl
/-- "(crossroads/link.Base).isOf": 21 temporaries, 2 parameters, results some [.t 4]. -/
def ac48 : AC :=
 .seq (.reg []
 [⟨some 2, none, .box, [.t 0]⟩,
 ⟨some 3, none, .box, [.t 1]⟩,
 ⟨some 4, none, .mov, [.c (.bool false)]⟩])
 (.seq (.reg []
 [⟨some 8, none, .load (some 7), [.t 3]⟩,
 ⟨some 9, none, .call 61, [.t 8]⟩,
 ⟨some 7, none, .mov, [.t 9]⟩,
 ⟨some 10, none, .ext 0, [.t 7]⟩,
 ⟨some 11, none, .ext 1, [.t 7]⟩,
 ⟨some 5, none, .mov, [.t 10]⟩,
 ⟨some 6, none, .mov, [.t 11]⟩])
 (.seq (.reg []
 [⟨some 12, none, .mov, [.t 6]⟩,
 ⟨some 13, none, .bin .eql .scal, [.t 12, .c (.int .i64 0)]⟩,
 ⟨some 14, none, .mov, [.t 13]⟩,
 ⟨some 15, some (14, true), .fldA 0, [.t 3]⟩,
 ⟨some 16, some (14, true), .load none, [.t 15]⟩,
 ⟨some 17, some (14, true), .fldA 0, [.t 2]⟩,
 ⟨some 18, some (14, true), .load none, [.t 17]⟩,
 ⟨some 19, some (14, true), .bin .eql .scal, [.t 16, .t 18]⟩,
 ⟨some 20, none, .pick, [.t 14, .t 19, .c (.bool false)]⟩,
 ⟨some 4, none, .mov, [.t 20]⟩])
 .ret))
theorem i48 : fnInfo Try.prog 48 = some (21, [.t 4], ac48) := by kernel_rfl
/-- "(crossroads/link.Base).at": 12 temporaries, 2 parameters, results some [.t 4, .t 5]. -/
def ac49 : AC :=
 .seq (.reg []
 [⟨some 2, none, .box, [.t 0]⟩,
 ⟨some 4, none, .mov, [.c (.int .i64 0)]⟩,
 ⟨some 5, none, .mov, [.c (.bool false)]⟩])
 (.seq (.reg []
 [⟨some 6, none, .fldA 2, [.t 2]⟩,
 ⟨some 7, none, .load none, [.t 6]⟩,
 ⟨some 8, none, .mov, [.t 1]⟩,
 ⟨some 9, none, .call 62, [.t 7, .t 8, .f 63]⟩,
 ⟨some 10, none, .ext 0, [.t 9]⟩,
 ⟨some 11, none, .ext 1, [.t 9]⟩,
 ⟨some 4, none, .mov, [.t 10]⟩,
 ⟨some 5, none, .mov, [.t 11]⟩])
 .ret)
theorem i49 : fnInfo Try.prog 49 = some (12, [.t 4, .t 5], ac49) := by kernel_rfl
/-- "slices.Insert[[]crossroads/pdu.Lsp,crossroads/pdu.Lsp]": 95 temporaries, 3 parameters, results some [.t 6]. -/
def ac50 : AC :=
 .seq (.reg []
 [⟨some 6, none, .mov, [.c .nils]⟩])
 (.seq (.reg []
 [⟨some 10, none, .mov, [.t 0]⟩,
 ⟨some 11, none, .mov, [.t 1]⟩,
 ⟨some 12, none, .slice 7 true false, [.t 10, .t 11]⟩])
 (.seq (.reg []
 [⟨some 13, none, .mov, [.t 2]⟩,
 ⟨some 14, none, .lenL, [.t 13]⟩,
 ⟨some 7, none, .mov, [.t 14]⟩])
 (.seq (.seq (.reg []
 [⟨some 15, none, .mov, [.t 7]⟩,
 ⟨some 16, none, .bin .eql .scal, [.t 15, .c (.int .i64 0)]⟩])
 (.cond (.t 16)
 (.seq (.reg []
 [⟨some 17, none, .mov, [.t 0]⟩,
 ⟨some 6, none, .mov, [.t 17]⟩])
 .ret)
 .skip))
 (.seq (.reg []
 [⟨some 18, none, .mov, [.t 0]⟩,
 ⟨some 19, none, .lenL, [.t 18]⟩,
 ⟨some 8, none, .mov, [.t 19]⟩])
 (.seq (.seq (.reg []
 [⟨some 20, none, .mov, [.t 1]⟩,
 ⟨some 21, none, .mov, [.t 8]⟩,
 ⟨some 22, none, .bin .eql .scal, [.t 20, .t 21]⟩])
 (.cond (.t 22)
 (.seq (.reg []
 [⟨some 23, none, .mov, [.t 0]⟩,
 ⟨some 24, none, .mov, [.t 2]⟩,
 ⟨some 25, none, .append 7 34 72, [.t 23, .t 24]⟩,
 ⟨some 6, none, .mov, [.t 25]⟩])
 .ret)
 .skip))
 (.seq (.seq (.reg []
 [⟨some 26, none, .mov, [.t 8]⟩,
 ⟨some 27, none, .mov, [.t 7]⟩,
 ⟨some 28, none, .bin .add .scal, [.t 26, .t 27]⟩,
 ⟨some 29, none, .mov, [.t 0]⟩,
 ⟨some 30, none, .capL, [.t 29]⟩,
 ⟨some 31, none, .bin .gtr .scal, [.t 28, .t 30]⟩])
 (.cond (.t 31)
 (.seq (.reg []
 [⟨some 32, none, .mov, [.t 0]⟩,
 ⟨some 33, none, .mov, [.t 1]⟩,
 ⟨some 34, none, .slice 7 false true, [.t 32, .t 33]⟩,
 ⟨some 35, none, .mov, [.t 8]⟩,
 ⟨some 36, none, .mov, [.t 7]⟩,
 ⟨some 37, none, .bin .add .scal, [.t 35, .t 36]⟩,
 ⟨some 38, none, .mov, [.t 1]⟩,
 ⟨some 39, none, .bin .sub .scal, [.t 37, .t 38]⟩,
 ⟨some 40, none, .appendZ 7 34 72 [.int .i64 0, .int .i64 0, .int .u64 0, .int .u32 0, .int .i64 0, .int .i64 0, .nils], [.t 34, .t 39]⟩,
 ⟨some 9, none, .mov, [.t 40]⟩])
 (.seq (.reg []
 [⟨some 41, none, .mov, [.t 9]⟩,
 ⟨some 42, none, .mov, [.t 1]⟩,
 ⟨some 43, none, .slice 7 true false, [.t 41, .t 42]⟩,
 ⟨some 44, none, .mov, [.t 2]⟩,
 ⟨some 45, none, .copy 7, [.t 43, .t 44]⟩])
 (.seq (.reg [[], [], [], [1, 2], [0, 3], [], [], [5, 6], [4, 7]]
 [⟨some 46, none, .mov, [.t 9]⟩,
 ⟨some 47, none, .mov, [.t 1]⟩,
 ⟨some 48, none, .mov, [.t 7]⟩,
 ⟨some 49, none, .bin .add .scal, [.t 47, .t 48]⟩,
 ⟨some 50, none, .slice 7 true false, [.t 46, .t 49]⟩,
 ⟨some 51, none, .mov, [.t 0]⟩,
 ⟨some 52, none, .mov, [.t 1]⟩,
 ⟨some 53, none, .slice 7 true false, [.t 51, .t 52]⟩,
 ⟨some 54, none, .copy 7, [.t 50, .t 53]⟩])
 (.seq (.reg []
 [⟨some 55, none, .mov, [.t 9]⟩,
 ⟨some 6, none, .mov, [.t 55]⟩])
 .ret))))
 .skip))
 (.seq (.reg []
 [⟨some 56, none, .mov, [.t 0]⟩,
 ⟨some 57, none, .mov, [.t 8]⟩,
 ⟨some 58, none, .mov, [.t 7]⟩,
 ⟨some 59, none, .bin .add .scal, [.t 57, .t 58]⟩,
 ⟨some 60, none, .slice 7 false true, [.t 56, .t 59]⟩,
 ⟨some 0, none, .mov, [.t 60]⟩])
 (.seq (.seq (.reg []
 [⟨some 61, none, .mov, [.t 2]⟩,
 ⟨some 62, none, .mov, [.t 0]⟩,
 ⟨some 63, none, .mov, [.t 1]⟩,
 ⟨some 64, none, .mov, [.t 7]⟩,
 ⟨some 65, none, .bin .add .scal, [.t 63, .t 64]⟩,
 ⟨some 66, none, .slice 7 true false, [.t 62, .t 65]⟩,
 ⟨some 67, none, .call 65, [.t 61, .t 66]⟩,
 ⟨some 68, none, .unNot, [.t 67]⟩])
 (.cond (.t 68)
 (.seq (.reg [[], [], [], [1, 2], [0, 3], [], [], [5, 6], [4, 7]]
 [⟨some 69, none, .mov, [.t 0]⟩,
 ⟨some 70, none, .mov, [.t 1]⟩,
 ⟨some 71, none, .mov, [.t 7]⟩,
 ⟨some 72, none, .bin .add .scal, [.t 70, .t 71]⟩,
 ⟨some 73, none, .slice 7 true false, [.t 69, .t 72]⟩,
 ⟨some 74, none, .mov, [.t 0]⟩,
 ⟨some 75, none, .mov, [.t 1]⟩,
 ⟨some 76, none, .slice 7 true false, [.t 74, .t 75]⟩,
 ⟨some 77, none, .copy 7, [.t 73, .t 76]⟩])
 (.seq (.reg []
 [⟨some 78, none, .mov, [.t 0]⟩,
 ⟨some 79, none, .mov, [.t 1]⟩,
 ⟨some 80, none, .slice 7 true false, [.t 78, .t 79]⟩,
 ⟨some 81, none, .mov, [.t 2]⟩,
 ⟨some 82, none, .copy 7, [.t 80, .t 81]⟩])
 (.seq (.reg []
 [⟨some 83, none, .mov, [.t 0]⟩,
 ⟨some 6, none, .mov, [.t 83]⟩])
 .ret)))
 .skip))
 (.seq (.reg []
 [⟨some 84, none, .mov, [.t 0]⟩,
 ⟨some 85, none, .mov, [.t 8]⟩,
 ⟨some 86, none, .slice 7 true false, [.t 84, .t 85]⟩,
 ⟨some 87, none, .mov, [.t 2]⟩,
 ⟨some 88, none, .copy 7, [.t 86, .t 87]⟩])
 (.seq (.reg []
 [⟨some 89, none, .mov, [.t 0]⟩,
 ⟨some 90, none, .mov, [.t 1]⟩,
 ⟨some 91, none, .slice 7 true false, [.t 89, .t 90]⟩,
 ⟨some 92, none, .mov, [.t 7]⟩,
 ⟨some 93, none, .call 66, [.t 91, .t 92]⟩])
 (.seq (.reg []
 [⟨some 94, none, .mov, [.t 0]⟩,
 ⟨some 6, none, .mov, [.t 94]⟩])
 .ret)))))))))))
theorem i50 : fnInfo Try.prog 50 = some (95, [.t 6], ac50) := by kernel_rfl
/-- "slices.Clone[[]crossroads/pdu.Lsp,crossroads/pdu.Lsp]": 8 temporaries, 1 parameters, results some [.t 2]. -/
def ac51 : AC :=
 .seq (.reg []
 [⟨some 2, none, .mov, [.c .nils]⟩])
 (.seq (.seq (.reg []
 [⟨some 3, none, .mov, [.t 0]⟩,
 ⟨some 4, none, .bin .eql .sl, [.t 3, .c .nils]⟩])
 (.cond (.t 4)
 (.seq (.reg []
 [⟨some 2, none, .mov, [.c .nils]⟩])
 .ret)
 .skip))
 (.seq (.reg []
 [⟨some 5, none, .bslice 7 34, []⟩,
 ⟨some 6, none, .mov, [.t 0]⟩,
 ⟨some 7, none, .append 7 34 72, [.t 5, .t 6]⟩,
 ⟨some 2, none, .mov, [.t 7]⟩])
 .ret))
theorem i51 : fnInfo Try.prog 51 = some (8, [.t 2], ac51) := by kernel_rfl
/-- "crossroads/crossroadsref22.SameLsp": 52 temporaries, 2 parameters, results some [.t 4]. -/
def ac52 : AC :=
 .seq (.reg []
 [⟨some 2, none, .box, [.t 0]⟩,
 ⟨some 3, none, .box, [.t 1]⟩,
 ⟨some 4, none, .mov, [.c (.bool false)]⟩])
 (.seq (.reg []
 [⟨some 5, none, .fldA 0, [.t 2]⟩,
 ⟨some 6, none, .load none, [.t 5]⟩,
 ⟨some 7, none, .fldA 0, [.t 3]⟩,
 ⟨some 8, none, .load none, [.t 7]⟩,
 ⟨some 9, none, .bin .eql .scal, [.t 6, .t 8]⟩,
 ⟨some 10, none, .mov, [.t 9]⟩,
 ⟨some 11, some (10, true), .fldA 1, [.t 2]⟩,
 ⟨some 12, some (10, true), .load none, [.t 11]⟩,
 ⟨some 13, some (10, true), .fldA 1, [.t 3]⟩,
 ⟨some 14, some (10, true), .load none, [.t 13]⟩,
 ⟨some 15, some (10, true), .bin .eql .scal, [.t 12, .t 14]⟩,
 ⟨some 16, none, .pick, [.t 10, .t 15, .c (.bool false)]⟩,
 ⟨some 17, none, .mov, [.t 16]⟩,
 ⟨some 18, some (17, true), .fldA 2, [.t 2]⟩,
 ⟨some 19, some (17, true), .load none, [.t 18]⟩,
 ⟨some 20, some (17, true), .fldA 2, [.t 3]⟩,
 ⟨some 21, some (17, true), .load none, [.t 20]⟩,
 ⟨some 22, some (17, true), .bin .eql .scal, [.t 19, .t 21]⟩,
 ⟨some 23, none, .pick, [.t 17, .t 22, .c (.bool false)]⟩,
 ⟨some 24, none, .mov, [.t 23]⟩,
 ⟨some 25, some (24, true), .fldA 3, [.t 2]⟩,
 ⟨some 26, some (24, true), .load none, [.t 25]⟩,
 ⟨some 27, some (24, true), .fldA 3, [.t 3]⟩,
 ⟨some 28, some (24, true), .load none, [.t 27]⟩,
 ⟨some 29, some (24, true), .bin .eql .scal, [.t 26, .t 28]⟩,
 ⟨some 30, none, .pick, [.t 24, .t 29, .c (.bool false)]⟩,
 ⟨some 31, none, .mov, [.t 30]⟩,
 ⟨some 32, some (31, true), .fldA 4, [.t 2]⟩,
 ⟨some 33, some (31, true), .load none, [.t 32]⟩,
 ⟨some 34, some (31, true), .fldA 4, [.t 3]⟩,
 ⟨some 35, some (31, true), .load none, [.t 34]⟩,
 ⟨some 36, some (31, true), .bin .eql .scal, [.t 33, .t 35]⟩,
 ⟨some 37, none, .pick, [.t 31, .t 36, .c (.bool false)]⟩,
 ⟨some 38, none, .mov, [.t 37]⟩,
 ⟨some 39, some (38, true), .fldA 5, [.t 2]⟩,
 ⟨some 40, some (38, true), .load none, [.t 39]⟩,
 ⟨some 41, some (38, true), .fldA 5, [.t 3]⟩,
 ⟨some 42, some (38, true), .load none, [.t 41]⟩,
 ⟨some 43, some (38, true), .bin .eql .scal, [.t 40, .t 42]⟩,
 ⟨some 44, none, .pick, [.t 38, .t 43, .c (.bool false)]⟩,
 ⟨some 45, none, .mov, [.t 44]⟩,
 ⟨some 46, some (45, true), .fldA 6, [.t 2]⟩,
 ⟨some 47, some (45, true), .load none, [.t 46]⟩,
 ⟨some 48, some (45, true), .fldA 6, [.t 3]⟩,
 ⟨some 49, some (45, true), .load none, [.t 48]⟩,
 ⟨some 50, some (45, true), .call 67, [.t 47, .t 49]⟩,
 ⟨some 51, none, .pick, [.t 45, .t 50, .c (.bool false)]⟩,
 ⟨some 4, none, .mov, [.t 51]⟩])
 .ret)
theorem i52 : fnInfo Try.prog 52 = some (52, [.t 4], ac52) := by kernel_rfl
/-- "crossroads/crossroadsref23.mayLsp": 20 temporaries, 2 parameters, results some [.t 4]. -/
def ac53 : AC :=
 .seq (.reg []
 [⟨some 2, none, .box, [.t 0]⟩,
 ⟨some 4, none, .mov, [.c (.bool false)]⟩])
 (.seq (.reg []
 [⟨some 8, none, .load (some 7), [.t 2]⟩,
 ⟨some 9, none, .call 68, [.t 8]⟩,
 ⟨some 7, none, .mov, [.t 9]⟩,
 ⟨some 10, none, .ext 0, [.t 7]⟩,
 ⟨some 11, none, .ext 1, [.t 7]⟩,
 ⟨some 5, none, .mov, [.t 10]⟩,
 ⟨some 6, none, .mov, [.t 11]⟩])
 (.seq (.reg []
 [⟨some 12, none, .mov, [.t 6]⟩,
 ⟨some 13, none, .bin .eql .scal, [.t 12, .c (.int .i64 0)]⟩,
 ⟨some 14, none, .mov, [.t 13]⟩,
 ⟨some 15, some (14, true), .fldA 0, [.t 2]⟩,
 ⟨some 16, some (14, true), .load none, [.t 15]⟩,
 ⟨some 17, some (14, true), .mov, [.t 1]⟩,
 ⟨some 18, some (14, true), .bin .eql .scal, [.t 16, .t 17]⟩,
 ⟨some 19, none, .pick, [.t 14, .t 18, .c (.bool false)]⟩,
 ⟨some 4, none, .mov, [.t 19]⟩])
 .ret))
theorem i53 : fnInfo Try.prog 53 = some (20, [.t 4], ac53) := by kernel_rfl
def ac54_1 : AC :=
 .seq (.seq (.reg []
 [⟨some 7, none, .mov, [.t 6]⟩,
 ⟨some 8, none, .fldA 2, [.t 2]⟩,
 ⟨some 9, none, .load none, [.t 8]⟩,
 ⟨some 10, none, .lenL, [.t 9]⟩,
 ⟨some 11, none, .bin .lss .scal, [.t 7, .t 10]⟩])
 (.cond (.t 11)
 .skip
 (.exit 0)))
 (.seq (.block 1 (.seq (.reg []
 [⟨some 14, none, .fldA 2, [.t 2]⟩,
 ⟨some 15, none, .load none, [.t 14]⟩,
 ⟨some 16, none, .mov, [.t 6]⟩,
 ⟨some 17, none, .idxA 7, [.t 15, .t 16]⟩,
 ⟨some 18, none, .fldA 2, [.t 17]⟩,
 ⟨some 19, none, .load none, [.t 18]⟩,
 ⟨some 20, none, .mov, [.t 1]⟩,
 ⟨some 21, none, .bin .eql .scal, [.t 19, .t 20]⟩])
 (.cond (.t 21)
 (.seq (.reg []
 [⟨some 22, none, .fldA 2, [.t 2]⟩,
 ⟨some 23, none, .load none, [.t 22]⟩,
 ⟨some 24, none, .mov, [.t 6]⟩,
 ⟨some 25, none, .idxA 7, [.t 23, .t 24]⟩,
 ⟨some 26, none, .load (some 7), [.t 25]⟩,
 ⟨none, none, .store 7, [.t 4, .t 26]⟩,
 ⟨some 5, none, .mov, [.c (.bool true)]⟩])
 .ret)
 .skip)))
 (.reg []
 [⟨some 12, none, .mov, [.t 6]⟩,
 ⟨some 13, none, .bin .add .scal, [.t 12, .c (.int .i64 1)]⟩,
 ⟨some 6, none, .mov, [.t 13]⟩]))
/-- "crossroads/crossroadsref23.Find": 28 temporaries, 2 parameters, results some [.c 4 (some 7), .t 5]. -/
def ac54 : AC :=
 .seq (.reg []
 [⟨some 2, none, .box, [.t 0]⟩,
 ⟨some 4, none, .alloc [.int .i64 0, .int .i64 0, .int .u64 0, .int .u32 0, .int .i64 0, .int .i64 0, .nils], []⟩,
 ⟨some 5, none, .mov, [.c (.bool false)]⟩])
 (.seq (.seq (.reg []
 [⟨some 6, none, .mov, [.c (.int .i64 0)]⟩])
 (.block 0 (.loop ac54_1)))
 (.seq (.reg []
 [⟨some 27, none, .build [.int .i64 0, .int .i64 0, .int .u64 0, .int .u32 0, .int .i64 0, .int .i64 0, .nils] [], []⟩,
 ⟨none, none, .store 7, [.t 4, .t 27]⟩,
 ⟨some 5, none, .mov, [.c (.bool false)]⟩])
 .ret))
theorem i54 : fnInfo Try.prog 54 = some (28, [.c 4 (some 7), .t 5], ac54) := by kernel_rfl
def ac55_1 : AC :=
 .seq (.seq (.reg []
 [⟨some 9, none, .mov, [.t 7]⟩,
 ⟨some 10, none, .fldA 2, [.t 2]⟩,
 ⟨some 11, none, .load none, [.t 10]⟩,
 ⟨some 12, none, .lenL, [.t 11]⟩,
 ⟨some 13, none, .bin .lss .scal, [.t 9, .t 12]⟩])
 (.cond (.t 13)
 .skip
 (.exit 0)))
 (.seq (.block 1 (.seq (.seq (.reg [[], [0], [1], [2], [3, 2], [2], [4, 5, 2], [6, 2], [7, 2], [2], [9, 2], [8, 10, 2], [2, 11]]
 [⟨some 16, none, .mov, [.t 6]⟩,
 ⟨some 17, none, .unNot, [.t 16]⟩,
 ⟨some 18, none, .mov, [.t 17]⟩,
 ⟨some 19, some (18, true), .fldA 2, [.t 2]⟩,
 ⟨some 20, some (18, true), .load none, [.t 19]⟩,
 ⟨some 21, some (18, true), .mov, [.t 7]⟩,
 ⟨some 22, some (18, true), .idxA 7, [.t 20, .t 21]⟩,
 ⟨some 23, some (18, true), .fldA 2, [.t 22]⟩,
 ⟨some 24, some (18, true), .load none, [.t 23]⟩,
 ⟨some 25, some (18, true), .fldA 2, [.t 3]⟩,
 ⟨some 26, some (18, true), .load none, [.t 25]⟩,
 ⟨some 27, some (18, true), .bin .geq .scal, [.t 24, .t 26]⟩,
 ⟨some 28, none, .pick, [.t 18, .t 27, .c (.bool false)]⟩])
 (.cond (.t 28)
 (.seq (.reg []
 [⟨some 29, none, .mov, [.t 5]⟩,
 ⟨some 30, none, .load (some 7), [.t 3]⟩,
 ⟨some 31, none, .bslice 7 78, [.t 30]⟩,
 ⟨some 32, none, .append 7 78 72, [.t 29, .t 31]⟩,
 ⟨some 5, none, .mov, [.t 32]⟩])
 (.reg []
 [⟨some 6, none, .mov, [.c (.bool true)]⟩]))
 .skip))
 (.seq (.reg [[], [0], [], [1, 2], [3], [4], [], [6], [5, 7]]
 [⟨some 33, none, .fldA 2, [.t 2]⟩,
 ⟨some 34, none, .load none, [.t 33]⟩,
 ⟨some 35, none, .mov, [.t 7]⟩,
 ⟨some 36, none, .idxA 7, [.t 34, .t 35]⟩,
 ⟨some 37, none, .fldA 2, [.t 36]⟩,
 ⟨some 38, none, .load none, [.t 37]⟩,
 ⟨some 39, none, .fldA 2, [.t 3]⟩,
 ⟨some 40, none, .load none, [.t 39]⟩,
 ⟨some 41, none, .bin .neq .scal, [.t 38, .t 40]⟩])
 (.cond (.t 41)
 (.reg []
 [⟨some 42, none, .mov, [.t 5]⟩,
 ⟨some 43, none, .fldA 2, [.t 2]⟩,
 ⟨some 44, none, .load none, [.t 43]⟩,
 ⟨some 45, none, .mov, [.t 7]⟩,
 ⟨some 46, none, .idxA 7, [.t 44, .t 45]⟩,
 ⟨some 47, none, .load (some 7), [.t 46]⟩,
 ⟨some 48, none, .bslice 7 78, [.t 47]⟩,
 ⟨some 49, none, .append 7 78 72, [.t 42, .t 48]⟩,
 ⟨some 5, none, .mov, [.t 49]⟩])
 .skip))))
 (.reg []
 [⟨some 14, none, .mov, [.t 7]⟩,
 ⟨some 15, none, .bin .add .scal, [.t 14, .c (.int .i64 1)]⟩,
 ⟨some 7, none, .mov, [.t 15]⟩]))
/-- "crossroads/crossroadsref23.into": 59 temporaries, 2 parameters, results some [.c 4 (some 4)]. -/
def ac55 : AC :=
 .seq (.reg []
 [⟨some 2, none, .box, [.t 0]⟩,
 ⟨some 3, none, .box, [.t 1]⟩,
 ⟨some 4, none, .alloc [.int .i64 0, .int .i64 0, .nils, .bool false], []⟩])
 (.seq (.reg []
 [⟨some 8, none, .bslice 7 78, []⟩,
 ⟨some 5, none, .mov, [.t 8]⟩])
 (.seq (.reg []
 [⟨some 6, none, .mov, [.c (.bool false)]⟩])
 (.seq (.seq (.reg []
 [⟨some 7, none, .mov, [.c (.int .i64 0)]⟩])
 (.block 0 (.loop ac55_1)))
 (.seq (.seq (.reg []
 [⟨some 50, none, .mov, [.t 6]⟩,
 ⟨some 51, none, .unNot, [.t 50]⟩])
 (.cond (.t 51)
 (.reg []
 [⟨some 52, none, .mov, [.t 5]⟩,
 ⟨some 53, none, .load (some 7), [.t 3]⟩,
 ⟨some 54, none, .bslice 7 78, [.t 53]⟩,
 ⟨some 55, none, .append 7 78 72, [.t 52, .t 54]⟩,
 ⟨some 5, none, .mov, [.t 55]⟩])
 .skip))
 (.seq (.reg []
 [⟨some 56, none, .mov, [.t 5]⟩,
 ⟨some 57, none, .fldA 2, [.t 2]⟩,
 ⟨none, none, .store 1, [.t 57, .t 56]⟩])
 (.seq (.reg []
 [⟨some 58, none, .load (some 4), [.t 2]⟩,
 ⟨none, none, .store 4, [.t 4, .t 58]⟩])
 .ret))))))
theorem i55 : fnInfo Try.prog 55 = some (59, [.c 4 (some 4)], ac55) := by kernel_rfl
/-- "crossroads/crossroadsref23.Entry": 12 temporaries, 1 parameters, results some [.c 2 (some 4)]. -/
def ac56 : AC :=
 .seq (.reg []
 [⟨some 1, none, .box, [.t 0]⟩,
 ⟨some 2, none, .alloc [.int .i64 0, .int .u64 0, .int .u32 0, .int .i64 0], []⟩])
 (.seq (.reg []
 [⟨some 3, none, .fldA 1, [.t 1]⟩,
 ⟨some 4, none, .load none, [.t 3]⟩,
 ⟨some 5, none, .fldA 2, [.t 1]⟩,
 ⟨some 6, none, .load none, [.t 5]⟩,
 ⟨some 7, none, .fldA 3, [.t 1]⟩,
 ⟨some 8, none, .load none, [.t 7]⟩,
 ⟨some 9, none, .fldA 4, [.t 1]⟩,
 ⟨some 10, none, .load none, [.t 9]⟩,
 ⟨some 11, none, .build [.int .i64 0, .int .u64 0, .int .u32 0, .int .i64 0] [(0, 1), (1, 1), (2, 1), (3, 1)], [.t 4, .t 6, .t 8, .t 10]⟩,
 ⟨none, none, .store 4, [.t 2, .t 11]⟩])
 .ret)
theorem i56 : fnInfo Try.prog 56 = some (12, [.c 2 (some 4)], ac56) := by kernel_rfl
def ac57_1 : AC :=
 .seq (.seq (.reg []
 [⟨some 7, none, .mov, [.t 6]⟩,
 ⟨some 8, none, .fldA 5, [.t 2]⟩,
 ⟨some 9, none, .load none, [.t 8]⟩,
 ⟨some 10, none, .lenL, [.t 9]⟩,
 ⟨some 11, none, .bin .lss .scal, [.t 7, .t 10]⟩])
 (.cond (.t 11)
 .skip
 (.exit 0)))
 (.seq (.block 1 (.seq (.reg []
 [⟨some 14, none, .fldA 5, [.t 2]⟩,
 ⟨some 15, none, .load none, [.t 14]⟩,
 ⟨some 16, none, .mov, [.t 6]⟩,
 ⟨some 17, none, .idxA 4, [.t 15, .t 16]⟩,
 ⟨some 18, none, .fldA 1, [.t 17]⟩,
 ⟨some 19, none, .load none, [.t 18]⟩,
 ⟨some 20, none, .mov, [.t 1]⟩,
 ⟨some 21, none, .bin .eql .scal, [.t 19, .t 20]⟩])
 (.cond (.t 21)
 (.seq (.reg []
 [⟨some 22, none, .fldA 5, [.t 2]⟩,
 ⟨some 23, none, .load none, [.t 22]⟩,
 ⟨some 24, none, .mov, [.t 6]⟩,
 ⟨some 25, none, .idxA 4, [.t 23, .t 24]⟩,
 ⟨some 26, none, .load (some 4), [.t 25]⟩,
 ⟨none, none, .store 4, [.t 4, .t 26]⟩,
 ⟨some 5, none, .mov, [.c (.bool true)]⟩])
 .ret)
 .skip)))
 (.reg []
 [⟨some 12, none, .mov, [.t 6]⟩,
 ⟨some 13, none, .bin .add .scal, [.t 12, .c (.int .i64 1)]⟩,
 ⟨some 6, none, .mov, [.t 13]⟩]))
/-- "crossroads/crossroadsref23.told": 28 temporaries, 2 parameters, results some [.c 4 (some 4), .t 5]. -/
def ac57 : AC :=
 .seq (.reg []
 [⟨some 2, none, .box, [.t 0]⟩,
 ⟨some 4, none, .alloc [.int .i64 0, .int .u64 0, .int .u32 0, .int .i64 0], []⟩,
 ⟨some 5, none, .mov, [.c (.bool false)]⟩])
 (.seq (.seq (.reg []
 [⟨some 6, none, .mov, [.c (.int .i64 0)]⟩])
 (.block 0 (.loop ac57_1)))
 (.seq (.reg []
 [⟨some 27, none, .build [.int .i64 0, .int .u64 0, .int .u32 0, .int .i64 0] [], []⟩,
 ⟨none, none, .store 4, [.t 4, .t 27]⟩,
 ⟨some 5, none, .mov, [.c (.bool false)]⟩])
 .ret))
theorem i57 : fnInfo Try.prog 57 = some (28, [.c 4 (some 4), .t 5], ac57) := by kernel_rfl
/-- "cmp.isNaN[uint32]": 6 temporaries, 1 parameters, results some [.t 2]. -/
def ac58 : AC :=
 .seq (.reg []
 [⟨some 2, none, .mov, [.c (.bool false)]⟩])
 (.seq (.reg []
 [⟨some 3, none, .mov, [.t 0]⟩,
 ⟨some 4, none, .mov, [.t 0]⟩,
 ⟨some 5, none, .bin .neq .scal, [.t 3, .t 4]⟩,
 ⟨some 2, none, .mov, [.t 5]⟩])
 .ret)
theorem i58 : fnInfo Try.prog 58 = some (6, [.t 2], ac58) := by kernel_rfl
/-- "cmp.isNaN[int]": 6 temporaries, 1 parameters, results some [.t 2]. -/
def ac59 : AC :=
 .seq (.reg []
 [⟨some 2, none, .mov, [.c (.bool false)]⟩])
 (.seq (.reg []
 [⟨some 3, none, .mov, [.t 0]⟩,
 ⟨some 4, none, .mov, [.t 0]⟩,
 ⟨some 5, none, .bin .neq .scal, [.t 3, .t 4]⟩,
 ⟨some 2, none, .mov, [.t 5]⟩])
 .ret)
theorem i59 : fnInfo Try.prog 59 = some (6, [.t 2], ac59) := by kernel_rfl
/-- "crossroads/pdu.PutLsp": 94 temporaries, 1 parameters, results some [.t 2, .t 3]. -/
def ac61 : AC :=
 .seq (.reg []
 [⟨some 1, none, .box, [.t 0]⟩,
 ⟨some 2, none, .mov, [.c .nils]⟩,
 ⟨some 3, none, .mov, [.c (.int .i64 0)]⟩])
 (.seq (.reg []
 [⟨some 10, none, .fldA 6, [.t 1]⟩,
 ⟨some 11, none, .load none, [.t 10]⟩,
 ⟨some 12, none, .call 69, [.t 11]⟩,
 ⟨some 9, none, .mov, [.t 12]⟩,
 ⟨some 13, none, .ext 0, [.t 9]⟩,
 ⟨some 14, none, .ext 1, [.t 9]⟩,
 ⟨some 4, none, .mov, [.t 13]⟩,
 ⟨some 5, none, .mov, [.t 14]⟩])
 (.seq (.reg []
 [⟨some 15, none, .call 70, [.c (.int .i64 18)]⟩,
 ⟨some 16, none, .mov, [.t 4]⟩,
 ⟨some 17, none, .lenL, [.t 16]⟩,
 ⟨some 18, none, .bin .add .scal, [.t 15, .t 17]⟩,
 ⟨some 6, none, .mov, [.t 18]⟩])
 (.seq (.seq (.reg []
 [⟨some 19, none, .mov, [.t 5]⟩,
 ⟨some 20, none, .bin .neq .scal, [.t 19, .c (.int .i64 0)]⟩,
 ⟨some 21, none, .mov, [.t 20]⟩,
 ⟨some 22, some (21, false), .fldA 0, [.t 1]⟩,
 ⟨some 23, some (21, false), .load none, [.t 22]⟩,
 ⟨some 24, some (21, false), .call 71, [.t 23]⟩,
 ⟨some 25, some (21, false), .unNot, [.t 24]⟩,
 ⟨some 26, none, .pick, [.t 21, .c (.bool true), .t 25]⟩,
 ⟨some 27, none, .mov, [.t 26]⟩,
 ⟨some 28, some (27, false), .fldA 1, [.t 1]⟩,
 ⟨some 29, some (27, false), .load none, [.t 28]⟩,
 ⟨some 30, some (27, false), .call 72, [.t 29, .c (.int .i64 65535)]⟩,
 ⟨some 31, some (27, false), .unNot, [.t 30]⟩,
 ⟨some 32, none, .pick, [.t 27, .c (.bool true), .t 31]⟩,
 ⟨some 33, none, .mov, [.t 32]⟩,
 ⟨some 34, some (33, false), .fldA 4, [.t 1]⟩,
 ⟨some 35, some (33, false), .load none, [.t 34]⟩,
 ⟨some 36, some (33, false), .call 72, [.t 35, .c (.int .i64 65535)]⟩,
 ⟨some 37, some (33, false), .unNot, [.t 36]⟩,
 ⟨some 38, none, .pick, [.t 33, .c (.bool true), .t 37]⟩,
 ⟨some 39, none, .mov, [.t 38]⟩,
 ⟨some 40, some (39, false), .fldA 5, [.t 1]⟩,
 ⟨some 41, some (39, false), .load none, [.t 40]⟩,
 ⟨some 42, some (39, false), .call 72, [.t 41, .c (.int .i64 63)]⟩,
 ⟨some 43, some (39, false), .unNot, [.t 42]⟩,
 ⟨some 44, none, .pick, [.t 39, .c (.bool true), .t 43]⟩,
 ⟨some 45, none, .mov, [.t 44]⟩,
 ⟨some 46, some (45, false), .mov, [.t 6]⟩,
 ⟨some 47, some (45, false), .bin .gtr .scal, [.t 46, .c (.int .i64 1492)]⟩,
 ⟨some 48, none, .pick, [.t 45, .c (.bool true), .t 47]⟩])
 (.cond (.t 48)
 (.seq (.reg []
 [⟨some 2, none, .mov, [.c .nils]⟩,
 ⟨some 3, none, .mov, [.c (.int .i64 1)]⟩])
 .ret)
 .skip))
 (.seq (.reg []
 [⟨some 7, none, .mov, [.c (.int .i64 18)]⟩])
 (.seq (.seq (.reg []
 [⟨some 49, none, .fldA 0, [.t 1]⟩,
 ⟨some 50, none, .load none, [.t 49]⟩,
 ⟨some 51, none, .bin .eql .scal, [.t 50, .c (.int .i64 2)]⟩])
 (.cond (.t 51)
 (.reg []
 [⟨some 7, none, .mov, [.c (.int .i64 20)]⟩])
 .skip))
 (.seq (.reg []
 [⟨some 52, none, .mov, [.t 7]⟩,
 ⟨some 53, none, .call 73, [.t 52]⟩,
 ⟨some 54, none, .build [.nils] [(0, 1)], [.t 53]⟩,
 ⟨some 55, none, .box, [.t 54]⟩,
 ⟨some 8, none, .mov, [.t 55]⟩])
 (.seq (.reg []
 [⟨some 56, none, .mov, [.t 8]⟩,
 ⟨some 57, none, .mov, [.t 6]⟩,
 ⟨some 58, none, .conv .u64, [.t 57]⟩,
 ⟨some 59, none, .call 74, [.t 56, .t 58, .c (.int .i64 2)]⟩])
 (.seq (.reg []
 [⟨some 60, none, .mov, [.t 8]⟩,
 ⟨some 61, none, .fldA 1, [.t 1]⟩,
 ⟨some 62, none, .load none, [.t 61]⟩,
 ⟨some 63, none, .conv .u64, [.t 62]⟩,
 ⟨some 64, none, .call 74, [.t 60, .t 63, .c (.int .i64 2)]⟩])
 (.seq (.reg []
 [⟨some 65, none, .mov, [.t 8]⟩,
 ⟨some 66, none, .fldA 2, [.t 1]⟩,
 ⟨some 67, none, .load none, [.t 66]⟩,
 ⟨some 68, none, .call 74, [.t 65, .t 67, .c (.int .i64 8)]⟩])
 (.seq (.reg []
 [⟨some 69, none, .mov, [.t 8]⟩,
 ⟨some 70, none, .fldA 3, [.t 1]⟩,
 ⟨some 71, none, .load none, [.t 70]⟩,
 ⟨some 72, none, .conv .u64, [.t 71]⟩,
 ⟨some 73, none, .call 74, [.t 69, .t 72, .c (.int .i64 4)]⟩])
 (.seq (.reg []
 [⟨some 74, none, .mov, [.t 8]⟩,
 ⟨some 75, none, .fldA 4, [.t 1]⟩,
 ⟨some 76, none, .load none, [.t 75]⟩,
 ⟨some 77, none, .conv .u64, [.t 76]⟩,
 ⟨some 78, none, .call 74, [.t 74, .t 77, .c (.int .i64 2)]⟩])
 (.seq (.reg []
 [⟨some 79, none, .mov, [.t 8]⟩,
 ⟨some 80, none, .fldA 5, [.t 1]⟩,
 ⟨some 81, none, .load none, [.t 80]⟩,
 ⟨some 82, none, .bin .shl .scal, [.t 81, .c (.int .u64 2)]⟩,
 ⟨some 83, none, .mov, [.t 7]⟩,
 ⟨some 84, none, .bin .sub .scal, [.t 83, .c (.int .i64 17)]⟩,
 ⟨some 85, none, .bin .or .scal, [.t 82, .t 84]⟩,
 ⟨some 86, none, .conv .u64, [.t 85]⟩,
 ⟨some 87, none, .call 74, [.t 79, .t 86, .c (.int .i64 1)]⟩])
 (.seq (.reg []
 [⟨some 88, none, .mov, [.t 8]⟩,
 ⟨some 89, none, .nilchk, [.t 88]⟩,
 ⟨some 90, none, .fldA 0, [.t 89]⟩,
 ⟨some 91, none, .load none, [.t 90]⟩,
 ⟨some 92, none, .mov, [.t 4]⟩,
 ⟨some 93, none, .append 1 5 1, [.t 91, .t 92]⟩,
 ⟨some 2, none, .mov, [.t 93]⟩,
 ⟨some 3, none, .mov, [.c (.int .i64 0)]⟩])
 .ret)))))))))))))
theorem i61 : fnInfo Try.prog 61 = some (94, [.t 2, .t 3], ac61) := by kernel_rfl
def ac62_1 : AC :=
 .seq (.seq (.reg []
 [⟨some 15, none, .mov, [.t 9]⟩,
 ⟨some 16, none, .mov, [.t 10]⟩,
 ⟨some 17, none, .bin .lss .scal, [.t 15, .t 16]⟩])
 (.cond (.t 17)
 .skip
 (.exit 0)))
 (.block 1 (.seq (.reg []
 [⟨some 18, none, .mov, [.t 9]⟩,
 ⟨some 19, none, .mov, [.t 10]⟩,
 ⟨some 20, none, .bin .add .scal, [.t 18, .t 19]⟩,
 ⟨some 21, none, .conv .u64, [.t 20]⟩,
 ⟨some 22, none, .bin .shr .scal, [.t 21, .c (.int .u64 1)]⟩,
 ⟨some 23, none, .conv .i64, [.t 22]⟩,
 ⟨some 11, none, .mov, [.t 23]⟩])
 (.seq (.reg []
 [⟨some 24, none, .mov, [.t 2]⟩,
 ⟨some 25, none, .mov, [.t 0]⟩,
 ⟨some 26, none, .mov, [.t 11]⟩,
 ⟨some 27, none, .idxA 7, [.t 25, .t 26]⟩,
 ⟨some 28, none, .load (some 7), [.t 27]⟩,
 ⟨some 29, none, .mov, [.t 1]⟩,
 ⟨some 30, none, .callv, [.t 24, .t 28, .t 29]⟩,
 ⟨some 31, none, .bin .lss .scal, [.t 30, .c (.int .i64 0)]⟩])
 (.cond (.t 31)
 (.reg []
 [⟨some 32, none, .mov, [.t 11]⟩,
 ⟨some 33, none, .bin .add .scal, [.t 32, .c (.int .i64 1)]⟩,
 ⟨some 9, none, .mov, [.t 33]⟩])
 (.reg []
 [⟨some 34, none, .mov, [.t 11]⟩,
 ⟨some 10, none, .mov, [.t 34]⟩])))))
/-- "slices.BinarySearchFunc[[]crossroads/pdu.Lsp,crossroads/pdu.Lsp,uint64]": 49 temporaries, 3 parameters, results some [.t 6, .t 7]. -/
def ac62 : AC :=
 .seq (.reg []
 [⟨some 6, none, .mov, [.c (.int .i64 0)]⟩,
 ⟨some 7, none, .mov, [.c (.bool false)]⟩])
 (.seq (.reg []
 [⟨some 12, none, .mov, [.t 0]⟩,
 ⟨some 13, none, .lenL, [.t 12]⟩,
 ⟨some 8, none, .mov, [.t 13]⟩])
 (.seq (.reg []
 [⟨some 14, none, .mov, [.t 8]⟩,
 ⟨some 9, none, .mov, [.c (.int .i64 0)]⟩,
 ⟨some 10, none, .mov, [.t 14]⟩])
 (.seq (.block 0 (.loop ac62_1))
 (.seq (.reg []
 [⟨some 35, none, .mov, [.t 9]⟩,
 ⟨some 36, none, .mov, [.t 9]⟩,
 ⟨some 37, none, .mov, [.t 8]⟩,
 ⟨some 38, none, .bin .lss .scal, [.t 36, .t 37]⟩,
 ⟨some 39, none, .mov, [.t 38]⟩,
 ⟨some 40, some (39, true), .mov, [.t 2]⟩,
 ⟨some 41, some (39, true), .mov, [.t 0]⟩,
 ⟨some 42, some (39, true), .mov, [.t 9]⟩,
 ⟨some 43, some (39, true), .idxA 7, [.t 41, .t 42]⟩,
 ⟨some 44, some (39, true), .load (some 7), [.t 43]⟩,
 ⟨some 45, some (39, true), .mov, [.t 1]⟩,
 ⟨some 46, some (39, true), .callv, [.t 40, .t 44, .t 45]⟩,
 ⟨some 47, some (39, true), .bin .eql .scal, [.t 46, .c (.int .i64 0)]⟩,
 ⟨some 48, none, .pick, [.t 39, .t 47, .c (.bool false)]⟩,
 ⟨some 6, none, .mov, [.t 35]⟩,
 ⟨some 7, none, .mov, [.t 48]⟩])
 .ret))))
theorem i62 : fnInfo Try.prog 62 = some (49, [.t 6, .t 7], ac62) := by kernel_rfl
/-- "(crossroads/link.Base).at$1": 9 temporaries, 2 parameters, results some [.t 4]. -/
def ac63 : AC :=
 .seq (.reg []
 [⟨some 2, none, .box, [.t 0]⟩,
 ⟨some 4, none, .mov, [.c (.int .i64 0)]⟩])
 (.seq (.reg []
 [⟨some 5, none, .fldA 2, [.t 2]⟩,
 ⟨some 6, none, .load none, [.t 5]⟩,
 ⟨some 7, none, .mov, [.t 1]⟩,
 ⟨some 8, none, .call 64, [.t 6, .t 7]⟩,
 ⟨some 4, none, .mov, [.t 8]⟩])
 .ret)
theorem i63 : fnInfo Try.prog 63 = some (9, [.t 4], ac63) := by kernel_rfl
/-- "cmp.Compare[uint64]": 20 temporaries, 2 parameters, results some [.t 4]. -/
def ac64 : AC :=
 .seq (.reg []
 [⟨some 4, none, .mov, [.c (.int .i64 0)]⟩])
 (.seq (.reg []
 [⟨some 7, none, .mov, [.t 0]⟩,
 ⟨some 8, none, .call 75, [.t 7]⟩,
 ⟨some 5, none, .mov, [.t 8]⟩])
 (.seq (.reg []
 [⟨some 9, none, .mov, [.t 1]⟩,
 ⟨some 10, none, .call 75, [.t 9]⟩,
 ⟨some 6, none, .mov, [.t 10]⟩])
 (.seq (.seq (.reg []
 [⟨some 11, none, .mov, [.t 5]⟩])
 (.cond (.t 11)
 (.seq (.seq (.reg []
 [⟨some 12, none, .mov, [.t 6]⟩])
 (.cond (.t 12)
 (.seq (.reg []
 [⟨some 4, none, .mov, [.c (.int .i64 0)]⟩])
 .ret)
 .skip))
 (.seq (.reg []
 [⟨some 4, none, .mov, [.c (.int .i64 (-1))]⟩])
 .ret))
 .skip))
 (.seq (.seq (.reg []
 [⟨some 13, none, .mov, [.t 6]⟩])
 (.cond (.t 13)
 (.seq (.reg []
 [⟨some 4, none, .mov, [.c (.int .i64 1)]⟩])
 .ret)
 .skip))
 (.seq (.seq (.reg []
 [⟨some 14, none, .mov, [.t 0]⟩,
 ⟨some 15, none, .mov, [.t 1]⟩,
 ⟨some 16, none, .bin .lss .scal, [.t 14, .t 15]⟩])
 (.cond (.t 16)
 (.seq (.reg []
 [⟨some 4, none, .mov, [.c (.int .i64 (-1))]⟩])
 .ret)
 .skip))
 (.seq (.seq (.reg []
 [⟨some 17, none, .mov, [.t 0]⟩,
 ⟨some 18, none, .mov, [.t 1]⟩,
 ⟨some 19, none, .bin .gtr .scal, [.t 17, .t 18]⟩])
 (.cond (.t 19)
 (.seq (.reg []
 [⟨some 4, none, .mov, [.c (.int .i64 1)]⟩])
 .ret)
 .skip))
 (.seq (.reg []
 [⟨some 4, none, .mov, [.c (.int .i64 0)]⟩])
 .ret)))))))
theorem i64 : fnInfo Try.prog 64 = some (20, [.t 4], ac64) := by kernel_rfl
def ac67_1 : AC :=
 .seq (.seq (.reg []
 [⟨some 11, none, .mov, [.t 5]⟩,
 ⟨some 12, none, .mov, [.t 0]⟩,
 ⟨some 13, none, .lenL, [.t 12]⟩,
 ⟨some 14, none, .bin .lss .scal, [.t 11, .t 13]⟩])
 (.cond (.t 14)
 .skip
 (.exit 0)))
 (.seq (.block 1 (.seq (.reg [[], [], [0, 1], [2], [3], [], [], [5, 6], [7], [8], [4, 9], [10], [11], [11], [12, 13, 11], [14, 11], [15, 11], [16, 11], [11], [11], [18, 19, 11], [20, 11], [21, 11], [22, 11], [17, 23, 11], [11, 24]]
 [⟨some 17, none, .mov, [.t 0]⟩,
 ⟨some 18, none, .mov, [.t 5]⟩,
 ⟨some 19, none, .idxA 2, [.t 17, .t 18]⟩,
 ⟨some 20, none, .fldA 0, [.t 19]⟩,
 ⟨some 21, none, .load none, [.t 20]⟩,
 ⟨some 22, none, .mov, [.t 1]⟩,
 ⟨some 23, none, .mov, [.t 5]⟩,
 ⟨some 24, none, .idxA 2, [.t 22, .t 23]⟩,
 ⟨some 25, none, .fldA 0, [.t 24]⟩,
 ⟨some 26, none, .load none, [.t 25]⟩,
 ⟨some 27, none, .bin .neq .scal, [.t 21, .t 26]⟩,
 ⟨some 28, none, .mov, [.t 27]⟩,
 ⟨some 29, some (28, false), .mov, [.t 0]⟩,
 ⟨some 30, some (28, false), .mov, [.t 5]⟩,
 ⟨some 31, some (28, false), .idxA 2, [.t 29, .t 30]⟩,
 ⟨some 32, some (28, false), .fldA 1, [.t 31]⟩,
 ⟨some 33, some (28, false), .load none, [.t 32]⟩,
 ⟨some 34, some (28, false), .bstr, [.t 33]⟩,
 ⟨some 35, some (28, false), .mov, [.t 1]⟩,
 ⟨some 36, some (28, false), .mov, [.t 5]⟩,
 ⟨some 37, some (28, false), .idxA 2, [.t 35, .t 36]⟩,
 ⟨some 38, some (28, false), .fldA 1, [.t 37]⟩,
 ⟨some 39, some (28, false), .load none, [.t 38]⟩,
 ⟨some 40, some (28, false), .bstr, [.t 39]⟩,
 ⟨some 41, some (28, false), .bin .neq .scal, [.t 34, .t 40]⟩,
 ⟨some 42, none, .pick, [.t 28, .c (.bool true), .t 41]⟩])
 (.cond (.t 42)
 (.seq (.reg []
 [⟨some 4, none, .mov, [.c (.bool false)]⟩])
 .ret)
 .skip)))
 (.reg []
 [⟨some 15, none, .mov, [.t 5]⟩,
 ⟨some 16, none, .bin .add .scal, [.t 15, .c (.int .i64 1)]⟩,
 ⟨some 5, none, .mov, [.t 16]⟩]))
/-- "crossroads/crossroadsref21.Things": 43 temporaries, 2 parameters, results some [.t 4]. -/
def ac67 : AC :=
 .seq (.reg []
 [⟨some 4, none, .mov, [.c (.bool false)]⟩])
 (.seq (.seq (.reg []
 [⟨some 6, none, .mov, [.t 0]⟩,
 ⟨some 7, none, .lenL, [.t 6]⟩,
 ⟨some 8, none, .mov, [.t 1]⟩,
 ⟨some 9, none, .lenL, [.t 8]⟩,
 ⟨some 10, none, .bin .neq .scal, [.t 7, .t 9]⟩])
 (.cond (.t 10)
 (.seq (.reg []
 [⟨some 4, none, .mov, [.c (.bool false)]⟩])
 .ret)
 .skip))
 (.seq (.seq (.reg []
 [⟨some 5, none, .mov, [.c (.int .i64 0)]⟩])
 (.block 0 (.loop ac67_1)))
 (.seq (.reg []
 [⟨some 4, none, .mov, [.c (.bool true)]⟩])
 .ret)))
theorem i67 : fnInfo Try.prog 67 = some (43, [.t 4], ac67) := by kernel_rfl
/-- "crossroads/crossroadsref22.PutLsp": 97 temporaries, 1 parameters, results some [.t 2, .t 3]. -/
def ac68 : AC :=
 .seq (.reg []
 [⟨some 1, none, .box, [.t 0]⟩,
 ⟨some 2, none, .mov, [.c .nils]⟩,
 ⟨some 3, none, .mov, [.c (.int .i64 0)]⟩])
 (.seq (.reg []
 [⟨some 8, none, .fldA 6, [.t 1]⟩,
 ⟨some 9, none, .load none, [.t 8]⟩,
 ⟨some 10, none, .call 77, [.t 9]⟩,
 ⟨some 7, none, .mov, [.t 10]⟩,
 ⟨some 11, none, .ext 0, [.t 7]⟩,
 ⟨some 12, none, .ext 1, [.t 7]⟩,
 ⟨some 4, none, .mov, [.t 11]⟩,
 ⟨some 5, none, .mov, [.t 12]⟩])
 (.seq (.seq (.reg []
 [⟨some 13, none, .mov, [.t 5]⟩,
 ⟨some 14, none, .bin .neq .scal, [.t 13, .c (.int .i64 0)]⟩,
 ⟨some 15, none, .mov, [.t 14]⟩,
 ⟨some 16, some (15, false), .fldA 0, [.t 1]⟩,
 ⟨some 17, some (15, false), .load none, [.t 16]⟩,
 ⟨some 18, some (15, false), .bin .lss .scal, [.t 17, .c (.int .i64 1)]⟩,
 ⟨some 19, none, .pick, [.t 15, .c (.bool true), .t 18]⟩,
 ⟨some 20, none, .mov, [.t 19]⟩,
 ⟨some 21, some (20, false), .fldA 0, [.t 1]⟩,
 ⟨some 22, some (20, false), .load none, [.t 21]⟩,
 ⟨some 23, some (20, false), .bin .gtr .scal, [.t 22, .c (.int .i64 2)]⟩,
 ⟨some 24, none, .pick, [.t 20, .c (.bool true), .t 23]⟩,
 ⟨some 25, none, .mov, [.t 24]⟩,
 ⟨some 26, some (25, false), .fldA 1, [.t 1]⟩,
 ⟨some 27, some (25, false), .load none, [.t 26]⟩,
 ⟨some 28, some (25, false), .call 78, [.t 27]⟩,
 ⟨some 29, some (25, false), .unNot, [.t 28]⟩,
 ⟨some 30, none, .pick, [.t 25, .c (.bool true), .t 29]⟩,
 ⟨some 31, none, .mov, [.t 30]⟩,
 ⟨some 32, some (31, false), .fldA 4, [.t 1]⟩,
 ⟨some 33, some (31, false), .load none, [.t 32]⟩,
 ⟨some 34, some (31, false), .call 78, [.t 33]⟩,
 ⟨some 35, some (31, false), .unNot, [.t 34]⟩,
 ⟨some 36, none, .pick, [.t 31, .c (.bool true), .t 35]⟩,
 ⟨some 37, none, .mov, [.t 36]⟩,
 ⟨some 38, some (37, false), .fldA 5, [.t 1]⟩,
 ⟨some 39, some (37, false), .load none, [.t 38]⟩,
 ⟨some 40, some (37, false), .bin .lss .scal, [.t 39, .c (.int .i64 0)]⟩,
 ⟨some 41, none, .pick, [.t 37, .c (.bool true), .t 40]⟩,
 ⟨some 42, none, .mov, [.t 41]⟩,
 ⟨some 43, some (42, false), .fldA 5, [.t 1]⟩,
 ⟨some 44, some (42, false), .load none, [.t 43]⟩,
 ⟨some 45, some (42, false), .bin .gtr .scal, [.t 44, .c (.int .i64 63)]⟩,
 ⟨some 46, none, .pick, [.t 42, .c (.bool true), .t 45]⟩,
 ⟨some 47, none, .mov, [.t 46]⟩,
 ⟨some 48, some (47, false), .mov, [.t 4]⟩,
 ⟨some 49, some (47, false), .lenL, [.t 48]⟩,
 ⟨some 50, some (47, false), .bin .gtr .scal, [.t 49, .c (.int .i64 1465)]⟩,
 ⟨some 51, none, .pick, [.t 47, .c (.bool true), .t 50]⟩])
 (.cond (.t 51)
 (.seq (.reg []
 [⟨some 2, none, .mov, [.c .nils]⟩,
 ⟨some 3, none, .mov, [.c (.int .i64 1)]⟩])
 .ret)
 .skip))
 (.seq (.reg []
 [⟨some 52, none, .fldA 0, [.t 1]⟩,
 ⟨some 53, none, .load none, [.t 52]⟩,
 ⟨some 54, none, .bin .mul .scal, [.c (.int .i64 2), .t 53]⟩,
 ⟨some 55, none, .bin .add .scal, [.c (.int .i64 16), .t 54]⟩,
 ⟨some 56, none, .call 79, [.c (.int .i64 27), .t 55]⟩,
 ⟨some 57, none, .mov, [.t 4]⟩,
 ⟨some 58, none, .lenL, [.t 57]⟩,
 ⟨some 59, none, .bin .add .scal, [.c (.int .i64 27), .t 58]⟩,
 ⟨some 60, none, .call 80, [.t 59]⟩,
 ⟨some 61, none, .append 1 5 1, [.t 56, .t 60]⟩,
 ⟨some 6, none, .mov, [.t 61]⟩])
 (.seq (.reg []
 [⟨some 62, none, .mov, [.t 6]⟩,
 ⟨some 63, none, .fldA 1, [.t 1]⟩,
 ⟨some 64, none, .load none, [.t 63]⟩,
 ⟨some 65, none, .call 80, [.t 64]⟩,
 ⟨some 66, none, .append 1 5 1, [.t 62, .t 65]⟩,
 ⟨some 6, none, .mov, [.t 66]⟩])
 (.seq (.reg []
 [⟨some 67, none, .mov, [.t 6]⟩,
 ⟨some 68, none, .fldA 2, [.t 1]⟩,
 ⟨some 69, none, .load none, [.t 68]⟩,
 ⟨some 70, none, .call 81, [.t 69]⟩,
 ⟨some 71, none, .append 1 5 1, [.t 67, .t 70]⟩,
 ⟨some 6, none, .mov, [.t 71]⟩])
 (.seq (.reg []
 [⟨some 72, none, .mov, [.t 6]⟩,
 ⟨some 73, none, .fldA 3, [.t 1]⟩,
 ⟨some 74, none, .load none, [.t 73]⟩,
 ⟨some 75, none, .call 82, [.t 74]⟩,
 ⟨some 76, none, .append 1 5 1, [.t 72, .t 75]⟩,
 ⟨some 6, none, .mov, [.t 76]⟩])
 (.seq (.reg []
 [⟨some 77, none, .mov, [.t 6]⟩,
 ⟨some 78, none, .fldA 4, [.t 1]⟩,
 ⟨some 79, none, .load none, [.t 78]⟩,
 ⟨some 80, none, .call 80, [.t 79]⟩,
 ⟨some 81, none, .append 1 5 1, [.t 77, .t 80]⟩,
 ⟨some 6, none, .mov, [.t 81]⟩])
 (.seq (.reg []
 [⟨some 82, none, .mov, [.t 6]⟩,
 ⟨some 83, none, .fldA 5, [.t 1]⟩,
 ⟨some 84, none, .load none, [.t 83]⟩,
 ⟨some 85, none, .bin .mul .scal, [.c (.int .i64 4), .t 84]⟩,
 ⟨some 86, none, .fldA 0, [.t 1]⟩,
 ⟨some 87, none, .load none, [.t 86]⟩,
 ⟨some 88, none, .bin .mul .scal, [.c (.int .i64 2), .t 87]⟩,
 ⟨some 89, none, .bin .add .scal, [.t 85, .t 88]⟩,
 ⟨some 90, none, .bin .sub .scal, [.t 89, .c (.int .i64 1)]⟩,
 ⟨some 91, none, .conv .u8, [.t 90]⟩,
 ⟨some 92, none, .bslice 1 5, [.t 91]⟩,
 ⟨some 93, none, .append 1 5 1, [.t 82, .t 92]⟩,
 ⟨some 6, none, .mov, [.t 93]⟩])
 (.seq (.reg []
 [⟨some 94, none, .mov, [.t 6]⟩,
 ⟨some 95, none, .mov, [.t 4]⟩,
 ⟨some 96, none, .append 1 5 1, [.t 94, .t 95]⟩,
 ⟨some 2, none, .mov, [.t 96]⟩,
 ⟨some 3, none, .mov, [.c (.int .i64 0)]⟩])
 .ret)))))))))
theorem i68 : fnInfo Try.prog 68 = some (97, [.t 2, .t 3], ac68) := by kernel_rfl
def ac69_1 : AC :=
 .seq (.reg []
 [⟨some 10, none, .bin .lss .scal, [.t 9, .t 8]⟩])
 (.seq (.cond (.t 10)
 .skip
 (.exit 0))
 (.seq (.block 1 (.seq (.reg []
 [⟨some 11, none, .idxA 2, [.t 7, .t 9]⟩,
 ⟨some 12, none, .load (some 2), [.t 11]⟩,
 ⟨some 6, none, .alloc [.int .i64 0, .nils], []⟩,
 ⟨none, none, .store 2, [.t 6, .t 12]⟩])
 (.seq (.seq (.reg []
 [⟨some 13, none, .fldA 0, [.t 6]⟩,
 ⟨some 14, none, .load none, [.t 13]⟩,
 ⟨some 15, none, .bin .lss .scal, [.t 14, .c (.int .i64 0)]⟩,
 ⟨some 16, none, .mov, [.t 15]⟩,
 ⟨some 17, some (16, false), .fldA 0, [.t 6]⟩,
 ⟨some 18, some (16, false), .load none, [.t 17]⟩,
 ⟨some 19, some (16, false), .bin .gtr .scal, [.t 18, .c (.int .i64 255)]⟩,
 ⟨some 20, none, .pick, [.t 16, .c (.bool true), .t 19]⟩,
 ⟨some 21, none, .mov, [.t 20]⟩,
 ⟨some 22, some (21, false), .fldA 1, [.t 6]⟩,
 ⟨some 23, some (21, false), .load none, [.t 22]⟩,
 ⟨some 24, some (21, false), .lenL, [.t 23]⟩,
 ⟨some 25, some (21, false), .bin .gtr .scal, [.t 24, .c (.int .i64 255)]⟩,
 ⟨some 26, none, .pick, [.t 21, .c (.bool true), .t 25]⟩])
 (.cond (.t 26)
 (.seq (.reg []
 [⟨some 2, none, .mov, [.c .nils]⟩,
 ⟨some 3, none, .mov, [.c (.int .i64 1)]⟩])
 .ret)
 .skip))
 (.reg [[], [], [1], [2], [], [4], [5], [6], [3, 7], [0, 8], [], [10], [9, 11, 9], [12, 12, 0, 1, 2, 3, 4, 5, 6, 7, 8, 9, 10, 11, 12]]
 [⟨some 27, none, .mov, [.t 4]⟩,
 ⟨some 28, none, .fldA 0, [.t 6]⟩,
 ⟨some 29, none, .load none, [.t 28]⟩,
 ⟨some 30, none, .conv .u8, [.t 29]⟩,
 ⟨some 31, none, .fldA 1, [.t 6]⟩,
 ⟨some 32, none, .load none, [.t 31]⟩,
 ⟨some 33, none, .lenL, [.t 32]⟩,
 ⟨some 34, none, .conv .u8, [.t 33]⟩,
 ⟨some 35, none, .bslice 1 5, [.t 30, .t 34]⟩,
 ⟨some 36, none, .append 1 5 1, [.t 27, .t 35]⟩,
 ⟨some 37, none, .fldA 1, [.t 6]⟩,
 ⟨some 38, none, .load none, [.t 37]⟩,
 ⟨some 39, none, .append 1 5 1, [.t 36, .t 38]⟩,
 ⟨some 4, none, .mov, [.t 39]⟩]))))
 (.reg []
 [⟨some 40, none, .bin .add .scal, [.t 9, .c (.int .i64 1)]⟩,
 ⟨some 9, none, .mov, [.t 40]⟩])))
/-- "crossroads/tlv.Put": 42 temporaries, 1 parameters, results some [.t 2, .t 3]. -/
def ac69 : AC :=
 .seq (.reg []
 [⟨some 2, none, .mov, [.c .nils]⟩,
 ⟨some 3, none, .mov, [.c (.int .i64 0)]⟩])
 (.seq (.reg []
 [⟨some 4, none, .mov, [.c .nils]⟩])
 (.seq (.seq (.reg []
 [⟨some 7, none, .mov, [.t 0]⟩,
 ⟨some 8, none, .lenL, [.t 7]⟩,
 ⟨some 9, none, .mov, [.c (.int .i64 0)]⟩])
 (.block 0 (.loop ac69_1)))
 (.seq (.reg []
 [⟨some 41, none, .mov, [.t 4]⟩,
 ⟨some 2, none, .mov, [.t 41]⟩,
 ⟨some 3, none, .mov, [.c (.int .i64 0)]⟩])
 .ret)))
theorem i69 : fnInfo Try.prog 69 = some (42, [.t 2, .t 3], ac69) := by kernel_rfl
/-- "crossroads/pdu.headOf": 15 temporaries, 1 parameters, results some [.t 2]. -/
def ac70 : AC :=
 .seq (.reg []
 [⟨some 2, none, .mov, [.c (.int .i64 0)]⟩])
 (.seq (.seq (.reg []
 [⟨some 3, none, .mov, [.t 0]⟩])
 (.block 0 (.seq (.reg []
 [⟨some 5, none, .bin .eql .scal, [.t 3, .c (.int .i64 17)]⟩,
 ⟨some 4, none, .mov, [.t 5]⟩])
 (.cond (.t 4)
 (.seq (.reg []
 [⟨some 2, none, .mov, [.c (.int .i64 20)]⟩])
 .ret)
 (.seq (.seq (.reg []
 [⟨some 7, none, .bin .eql .scal, [.t 3, .c (.int .i64 18)]⟩,
 ⟨some 6, none, .mov, [.t 7]⟩])
 (.cond (.t 6)
 .skip
 (.reg []
 [⟨some 8, none, .bin .eql .scal, [.t 3, .c (.int .i64 20)]⟩,
 ⟨some 6, none, .mov, [.t 8]⟩])))
 (.cond (.t 6)
 (.seq (.reg []
 [⟨some 2, none, .mov, [.c (.int .i64 27)]⟩])
 .ret)
 (.seq (.seq (.reg []
 [⟨some 10, none, .bin .eql .scal, [.t 3, .c (.int .i64 24)]⟩,
 ⟨some 9, none, .mov, [.t 10]⟩])
 (.cond (.t 9)
 .skip
 (.reg []
 [⟨some 11, none, .bin .eql .scal, [.t 3, .c (.int .i64 25)]⟩,
 ⟨some 9, none, .mov, [.t 11]⟩])))
 (.cond (.t 9)
 (.seq (.reg []
 [⟨some 2, none, .mov, [.c (.int .i64 33)]⟩])
 .ret)
 (.seq (.seq (.reg []
 [⟨some 13, none, .bin .eql .scal, [.t 3, .c (.int .i64 26)]⟩,
 ⟨some 12, none, .mov, [.t 13]⟩])
 (.cond (.t 12)
 .skip
 (.reg []
 [⟨some 14, none, .bin .eql .scal, [.t 3, .c (.int .i64 27)]⟩,
 ⟨some 12, none, .mov, [.t 14]⟩])))
 (.cond (.t 12)
 (.seq (.reg []
 [⟨some 2, none, .mov, [.c (.int .i64 17)]⟩])
 .ret)
 .skip))))))))))
 (.seq (.reg []
 [⟨some 2, none, .mov, [.c (.int .i64 0)]⟩])
 .ret))
theorem i70 : fnInfo Try.prog 70 = some (15, [.t 2], ac70) := by kernel_rfl
/-- "crossroads/pdu.isLevel": 9 temporaries, 1 parameters, results some [.t 2]. -/
def ac71 : AC :=
 .seq (.reg []
 [⟨some 2, none, .mov, [.c (.bool false)]⟩])
 (.seq (.reg []
 [⟨some 3, none, .mov, [.t 0]⟩,
 ⟨some 4, none, .bin .eql .scal, [.t 3, .c (.int .i64 1)]⟩,
 ⟨some 5, none, .mov, [.t 4]⟩,
 ⟨some 6, some (5, false), .mov, [.t 0]⟩,
 ⟨some 7, some (5, false), .bin .eql .scal, [.t 6, .c (.int .i64 2)]⟩,
 ⟨some 8, none, .pick, [.t 5, .c (.bool true), .t 7]⟩,
 ⟨some 2, none, .mov, [.t 8]⟩])
 .ret)
theorem i71 : fnInfo Try.prog 71 = some (9, [.t 2], ac71) := by kernel_rfl
/-- "crossroads/pdu.isIn": 12 temporaries, 2 parameters, results some [.t 4]. -/
def ac72 : AC :=
 .seq (.reg []
 [⟨some 4, none, .mov, [.c (.bool false)]⟩])
 (.seq (.reg []
 [⟨some 5, none, .mov, [.t 0]⟩,
 ⟨some 6, none, .bin .geq .scal, [.t 5, .c (.int .i64 0)]⟩,
 ⟨some 7, none, .mov, [.t 6]⟩,
 ⟨some 8, some (7, true), .mov, [.t 0]⟩,
 ⟨some 9, some (7, true), .mov, [.t 1]⟩,
 ⟨some 10, some (7, true), .bin .leq .scal, [.t 8, .t 9]⟩,
 ⟨some 11, none, .pick, [.t 7, .t 10, .c (.bool false)]⟩,
 ⟨some 4, none, .mov, [.t 11]⟩])
 .ret)
theorem i72 : fnInfo Try.prog 72 = some (12, [.t 4], ac72) := by kernel_rfl
/-- "crossroads/pdu.begin": 9 temporaries, 1 parameters, results some [.t 2]. -/
def ac73 : AC :=
 .seq (.reg []
 [⟨some 2, none, .mov, [.c .nils]⟩])
 (.seq (.reg []
 [⟨some 3, none, .mov, [.t 0]⟩,
 ⟨some 4, none, .call 70, [.t 3]⟩,
 ⟨some 5, none, .conv .u8, [.t 4]⟩,
 ⟨some 6, none, .mov, [.t 0]⟩,
 ⟨some 7, none, .conv .u8, [.t 6]⟩,
 ⟨some 8, none, .bslice 1 5, [.c (.int .u8 131), .t 5, .c (.int .u8 1), .c (.int .u8 0), .t 7, .c (.int .u8 1), .c (.int .u8 0), .c (.int .u8 0)]⟩,
 ⟨some 2, none, .mov, [.t 8]⟩])
 .ret)
theorem i73 : fnInfo Try.prog 73 = some (9, [.t 2], ac73) := by kernel_rfl
def ac74_1 : AC :=
 .seq (.seq (.reg []
 [⟨some 9, none, .mov, [.t 6]⟩,
 ⟨some 10, none, .bin .geq .scal, [.t 9, .c (.int .i64 0)]⟩])
 (.cond (.t 10)
 .skip
 (.exit 0)))
 (.seq (.block 1 (.reg [[], [], [1], [2], [3], [], [], [6], [5, 7], [8], [9], [4, 10], [0, 0, 1, 2, 3, 4, 5, 6, 7, 8, 9, 10, 11], [12, 0, 1, 2, 3, 4, 5, 6, 7, 8, 9, 10, 11], [13, 11, 11, 0, 1, 2, 3, 4, 5, 6, 7, 8, 9, 10, 11]]
 [⟨some 13, none, .mov, [.t 0]⟩,
 ⟨some 14, none, .mov, [.t 0]⟩,
 ⟨some 15, none, .nilchk, [.t 14]⟩,
 ⟨some 16, none, .fldA 0, [.t 15]⟩,
 ⟨some 17, none, .load none, [.t 16]⟩,
 ⟨some 18, none, .mov, [.t 1]⟩,
 ⟨some 19, none, .mov, [.t 6]⟩,
 ⟨some 20, none, .bin .mul .scal, [.c (.int .i64 8), .t 19]⟩,
 ⟨some 21, none, .bin .shr .scal, [.t 18, .t 20]⟩,
 ⟨some 22, none, .conv .u8, [.t 21]⟩,
 ⟨some 23, none, .bslice 1 5, [.t 22]⟩,
 ⟨some 24, none, .append 1 5 1, [.t 17, .t 23]⟩,
 ⟨some 25, none, .nilchk, [.t 13]⟩,
 ⟨some 26, none, .fldA 0, [.t 25]⟩,
 ⟨none, none, .store 1, [.t 26, .t 24]⟩]))
 (.reg []
 [⟨some 11, none, .mov, [.t 6]⟩,
 ⟨some 12, none, .bin .sub .scal, [.t 11, .c (.int .i64 1)]⟩,
 ⟨some 6, none, .mov, [.t 12]⟩]))
/-- "(*crossroads/pdu.page).put": 27 temporaries, 3 parameters, results some []. -/
def ac74 : AC :=
 .seq (.reg []
 [⟨some 7, none, .mov, [.t 2]⟩,
 ⟨some 8, none, .bin .sub .scal, [.t 7, .c (.int .i64 1)]⟩,
 ⟨some 6, none, .mov, [.t 8]⟩])
 (.block 0 (.loop ac74_1))
theorem i74 : fnInfo Try.prog 74 = some (27, [], ac74) := by kernel_rfl
/-- "cmp.isNaN[uint64]": 6 temporaries, 1 parameters, results some [.t 2]. -/
def ac75 : AC :=
 .seq (.reg []
 [⟨some 2, none, .mov, [.c (.bool false)]⟩])
 (.seq (.reg []
 [⟨some 3, none, .mov, [.t 0]⟩,
 ⟨some 4, none, .mov, [.t 0]⟩,
 ⟨some 5, none, .bin .neq .scal, [.t 3, .t 4]⟩,
 ⟨some 2, none, .mov, [.t 5]⟩])
 .ret)
theorem i75 : fnInfo Try.prog 75 = some (6, [.t 2], ac75) := by kernel_rfl
def ac77_1 : AC :=
 .seq (.seq (.reg []
 [⟨some 7, none, .mov, [.t 5]⟩,
 ⟨some 8, none, .mov, [.t 0]⟩,
 ⟨some 9, none, .lenL, [.t 8]⟩,
 ⟨some 10, none, .bin .lss .scal, [.t 7, .t 9]⟩])
 (.cond (.t 10)
 .skip
 (.exit 0)))
 (.seq (.block 1 (.seq (.seq (.reg []
 [⟨some 13, none, .mov, [.t 0]⟩,
 ⟨some 14, none, .mov, [.t 5]⟩,
 ⟨some 15, none, .idxA 2, [.t 13, .t 14]⟩,
 ⟨some 16, none, .fldA 0, [.t 15]⟩,
 ⟨some 17, none, .load none, [.t 16]⟩,
 ⟨some 18, none, .bin .lss .scal, [.t 17, .c (.int .i64 0)]⟩,
 ⟨some 19, none, .mov, [.t 18]⟩,
 ⟨some 20, some (19, false), .mov, [.t 0]⟩,
 ⟨some 21, some (19, false), .mov, [.t 5]⟩,
 ⟨some 22, some (19, false), .idxA 2, [.t 20, .t 21]⟩,
 ⟨some 23, some (19, false), .fldA 0, [.t 22]⟩,
 ⟨some 24, some (19, false), .load none, [.t 23]⟩,
 ⟨some 25, some (19, false), .bin .gtr .scal, [.t 24, .c (.int .i64 255)]⟩,
 ⟨some 26, none, .pick, [.t 19, .c (.bool true), .t 25]⟩,
 ⟨some 27, none, .mov, [.t 26]⟩,
 ⟨some 28, some (27, false), .mov, [.t 0]⟩,
 ⟨some 29, some (27, false), .mov, [.t 5]⟩,
 ⟨some 30, some (27, false), .idxA 2, [.t 28, .t 29]⟩,
 ⟨some 31, some (27, false), .fldA 1, [.t 30]⟩,
 ⟨some 32, some (27, false), .load none, [.t 31]⟩,
 ⟨some 33, some (27, false), .lenL, [.t 32]⟩,
 ⟨some 34, some (27, false), .bin .gtr .scal, [.t 33, .c (.int .i64 255)]⟩,
 ⟨some 35, none, .pick, [.t 27, .c (.bool true), .t 34]⟩])
 (.cond (.t 35)
 (.seq (.reg []
 [⟨some 2, none, .mov, [.c .nils]⟩,
 ⟨some 3, none, .mov, [.c (.int .i64 1)]⟩])
 .ret)
 .skip))
 (.seq (.reg [[], [], [], [1, 2], [3], [4], [5], [], [], [7, 8], [9], [10], [11], [12], [6, 13], [0, 14], [15, 15, 0, 1, 2, 3, 4, 5, 6, 7, 8, 9, 10, 11, 12, 13, 14, 15]]
 [⟨some 36, none, .mov, [.t 4]⟩,
 ⟨some 37, none, .mov, [.t 0]⟩,
 ⟨some 38, none, .mov, [.t 5]⟩,
 ⟨some 39, none, .idxA 2, [.t 37, .t 38]⟩,
 ⟨some 40, none, .fldA 0, [.t 39]⟩,
 ⟨some 41, none, .load none, [.t 40]⟩,
 ⟨some 42, none, .conv .u8, [.t 41]⟩,
 ⟨some 43, none, .mov, [.t 0]⟩,
 ⟨some 44, none, .mov, [.t 5]⟩,
 ⟨some 45, none, .idxA 2, [.t 43, .t 44]⟩,
 ⟨some 46, none, .fldA 1, [.t 45]⟩,
 ⟨some 47, none, .load none, [.t 46]⟩,
 ⟨some 48, none, .lenL, [.t 47]⟩,
 ⟨some 49, none, .conv .u8, [.t 48]⟩,
 ⟨some 50, none, .bslice 1 5, [.t 42, .t 49]⟩,
 ⟨some 51, none, .append 1 5 1, [.t 36, .t 50]⟩,
 ⟨some 4, none, .mov, [.t 51]⟩])
 (.reg []
 [⟨some 52, none, .mov, [.t 4]⟩,
 ⟨some 53, none, .mov, [.t 0]⟩,
 ⟨some 54, none, .mov, [.t 5]⟩,
 ⟨some 55, none, .idxA 2, [.t 53, .t 54]⟩,
 ⟨some 56, none, .fldA 1, [.t 55]⟩,
 ⟨some 57, none, .load none, [.t 56]⟩,
 ⟨some 58, none, .append 1 5 1, [.t 52, .t 57]⟩,
 ⟨some 4, none, .mov, [.t 58]⟩]))))
 (.reg []
 [⟨some 11, none, .mov, [.t 5]⟩,
 ⟨some 12, none, .bin .add .scal, [.t 11, .c (.int .i64 1)]⟩,
 ⟨some 5, none, .mov, [.t 12]⟩]))
/-- "crossroads/crossroadsref21.Put": 60 temporaries, 1 parameters, results some [.t 2, .t 3]. -/
def ac77 : AC :=
 .seq (.reg []
 [⟨some 2, none, .mov, [.c .nils]⟩,
 ⟨some 3, none, .mov, [.c (.int .i64 0)]⟩])
 (.seq (.reg []
 [⟨some 6, none, .bslice 1 5, []⟩,
 ⟨some 4, none, .mov, [.t 6]⟩])
 (.seq (.seq (.reg []
 [⟨some 5, none, .mov, [.c (.int .i64 0)]⟩])
 (.block 0 (.loop ac77_1)))
 (.seq (.reg []
 [⟨some 59, none, .mov, [.t 4]⟩,
 ⟨some 2, none, .mov, [.t 59]⟩,
 ⟨some 3, none, .mov, [.c (.int .i64 0)]⟩])
 .ret)))
theorem i77 : fnInfo Try.prog 77 = some (60, [.t 2, .t 3], ac77) := by kernel_rfl
/-- "crossroads/crossroadsref22.short": 9 temporaries, 1 parameters, results some [.t 2]. -/
def ac78 : AC :=
 .seq (.reg []
 [⟨some 2, none, .mov, [.c (.bool false)]⟩])
 (.seq (.reg []
 [⟨some 3, none, .mov, [.t 0]⟩,
 ⟨some 4, none, .bin .geq .scal, [.t 3, .c (.int .i64 0)]⟩,
 ⟨some 5, none, .mov, [.t 4]⟩,
 ⟨some 6, some (5, true), .mov, [.t 0]⟩,
 ⟨some 7, some (5, true), .bin .leq .scal, [.t 6, .c (.int .i64 65535)]⟩,
 ⟨some 8, none, .pick, [.t 5, .t 7, .c (.bool false)]⟩,
 ⟨some 2, none, .mov, [.t 8]⟩])
 .ret)
theorem i78 : fnInfo Try.prog 78 = some (9, [.t 2], ac78) := by kernel_rfl
/-- "crossroads/crossroadsref22.begin": 10 temporaries, 2 parameters, results some [.t 4]. -/
def ac79 : AC :=
 .seq (.reg []
 [⟨some 4, none, .mov, [.c .nils]⟩])
 (.seq (.reg []
 [⟨some 5, none, .mov, [.t 0]⟩,
 ⟨some 6, none, .conv .u8, [.t 5]⟩,
 ⟨some 7, none, .mov, [.t 1]⟩,
 ⟨some 8, none, .conv .u8, [.t 7]⟩,
 ⟨some 9, none, .bslice 1 5, [.c (.int .u8 131), .t 6, .c (.int .u8 1), .c (.int .u8 0), .t 8, .c (.int .u8 1), .c (.int .u8 0), .c (.int .u8 0)]⟩,
 ⟨some 4, none, .mov, [.t 9]⟩])
 .ret)
theorem i79 : fnInfo Try.prog 79 = some (10, [.t 4], ac79) := by kernel_rfl
/-- "crossroads/crossroadsref22.two": 10 temporaries, 1 parameters, results some [.t 2]. -/
def ac80 : AC :=
 .seq (.reg []
 [⟨some 2, none, .mov, [.c .nils]⟩])
 (.seq (.reg []
 [⟨some 3, none, .mov, [.t 0]⟩,
 ⟨some 4, none, .bin .quo .scal, [.t 3, .c (.int .i64 256)]⟩,
 ⟨some 5, none, .conv .u8, [.t 4]⟩,
 ⟨some 6, none, .mov, [.t 0]⟩,
 ⟨some 7, none, .bin .rem .scal, [.t 6, .c (.int .i64 256)]⟩,
 ⟨some 8, none, .conv .u8, [.t 7]⟩,
 ⟨some 9, none, .bslice 1 5, [.t 5, .t 8]⟩,
 ⟨some 2, none, .mov, [.t 9]⟩])
 .ret)
theorem i80 : fnInfo Try.prog 80 = some (10, [.t 2], ac80) := by kernel_rfl
/-- "crossroads/crossroadsref22.eight": 11 temporaries, 1 parameters, results some [.t 2]. -/
def ac81 : AC :=
 .seq (.reg []
 [⟨some 2, none, .mov, [.c .nils]⟩])
 (.seq (.reg []
 [⟨some 3, none, .mov, [.t 0]⟩,
 ⟨some 4, none, .bin .shr .scal, [.t 3, .c (.int .u64 32)]⟩,
 ⟨some 5, none, .conv .u32, [.t 4]⟩,
 ⟨some 6, none, .call 82, [.t 5]⟩,
 ⟨some 7, none, .mov, [.t 0]⟩,
 ⟨some 8, none, .conv .u32, [.t 7]⟩,
 ⟨some 9, none, .call 82, [.t 8]⟩,
 ⟨some 10, none, .append 1 5 1, [.t 6, .t 9]⟩,
 ⟨some 2, none, .mov, [.t 10]⟩])
 .ret)
theorem i81 : fnInfo Try.prog 81 = some (11, [.t 2], ac81) := by kernel_rfl
/-- "crossroads/crossroadsref01.Four": 15 temporaries, 1 parameters, results some [.t 2]. -/
def ac82 : AC :=
 .seq (.reg []
 [⟨some 2, none, .mov, [.c .nils]⟩])
 (.seq (.reg []
 [⟨some 3, none, .mov, [.t 0]⟩,
 ⟨some 4, none, .bin .shr .scal, [.t 3, .c (.int .u64 24)]⟩,
 ⟨some 5, none, .conv .u8, [.t 4]⟩,
 ⟨some 6, none, .mov, [.t 0]⟩,
 ⟨some 7, none, .bin .shr .scal, [.t 6, .c (.int .u64 16)]⟩,
 ⟨some 8, none, .conv .u8, [.t 7]⟩,
 ⟨some 9, none, .mov, [.t 0]⟩,
 ⟨some 10, none, .bin .shr .scal, [.t 9, .c (.int .u64 8)]⟩,
 ⟨some 11, none, .conv .u8, [.t 10]⟩,
 ⟨some 12, none, .mov, [.t 0]⟩,
 ⟨some 13, none, .conv .u8, [.t 12]⟩,
 ⟨some 14, none, .bslice 1 5, [.t 5, .t 8, .t 11, .t 13]⟩,
 ⟨some 2, none, .mov, [.t 14]⟩])
 .ret)
theorem i82 : fnInfo Try.prog 82 = some (15, [.t 2], ac82) := by kernel_rfl
end Go.Proofs.Ytpcpclbdajebjaa.Abs

/- The functions of the program as the abstract machine's code: each is what the model's code is turned into. -/
import Derived.Test.YtakallenldpkiaaGreatDoorA19
import Derived.Test.YtakallenldpkiaaGreatDoorP0
import Derived.Test.YtakallenldpkiaaGreatDoorProg
import Derived.KernelRfl
namespace Go.Proofs.YtakallenldpkiaaGreatDoor.Abs
open Go
theorem mixed:Tryz.prog.follows .mixedOrders = true:=by kernel_rfl
def ac4_1:AC :=
 .seq (.seq (.reg []
 [⟨some 14,none,.mov,[.t 4]⟩,
 ⟨some 15,none,.mov,[.t 0]⟩,
 ⟨some 16,none,.lenL,[.t 15]⟩,
 ⟨some 17,none,.bin .lss .scal,[.t 14,.t 16]⟩,
 ⟨some 18,none,.mov,[.t 17]⟩,
 ⟨some 19,some (18,true),.mov,[.t 4]⟩,
 ⟨some 20,some (18,true),.bin .lss .scal,[.t 19,.c (.int .i64 60)]⟩,
 ⟨some 21,none,.pick,[.t 18,.t 20,.c (.bool false)]⟩])
 (.cond (.t 21)
 .skip
 (.exit 0)))
 (.seq (.block 1 (.seq (.reg []
 [⟨some 24,none,.mov,[.t 0]⟩,
 ⟨some 25,none,.mov,[.t 4]⟩,
 ⟨some 26,none,.idxA 5,[.t 24,.t 25]⟩,
 ⟨some 27,none,.load (some 5),[.t 26]⟩,
 ⟨some 28,none,.call 6,[.t 27]⟩])
 (.cond (.t 28)
 (.seq (.reg [[],[],[],[1,2],[3],[4],[],[],[6,7],[8],[9],[0,5,10]]
 [⟨some 29,none,.mov,[.t 3]⟩,
 ⟨some 30,none,.mov,[.t 0]⟩,
 ⟨some 31,none,.mov,[.t 4]⟩,
 ⟨some 32,none,.idxA 5,[.t 30,.t 31]⟩,
 ⟨some 33,none,.fldA 1,[.t 32]⟩,
 ⟨some 34,none,.load (some 2),[.t 33]⟩,
 ⟨some 35,none,.mov,[.t 0]⟩,
 ⟨some 36,none,.mov,[.t 4]⟩,
 ⟨some 37,none,.idxA 5,[.t 35,.t 36]⟩,
 ⟨some 38,none,.fldA 3,[.t 37]⟩,
 ⟨some 39,none,.load none,[.t 38]⟩,
 ⟨some 40,none,.call 16,[.t 29,.t 34,.t 39]⟩])
 (.seq (.reg []
 [⟨some 41,none,.mov,[.t 3]⟩,
 ⟨some 42,none,.mov,[.t 0]⟩,
 ⟨some 43,none,.mov,[.t 4]⟩,
 ⟨some 44,none,.idxA 5,[.t 42,.t 43]⟩,
 ⟨some 45,none,.fldA 4,[.t 44]⟩,
 ⟨some 46,none,.load none,[.t 45]⟩,
 ⟨some 47,none,.call 10,[.t 41,.t 46]⟩])
 (.reg [[],[],[],[1,2],[3],[4],[],[],[6,7],[8],[9],[0,5,10]]
 [⟨some 48,none,.mov,[.t 3]⟩,
 ⟨some 49,none,.mov,[.t 0]⟩,
 ⟨some 50,none,.mov,[.t 4]⟩,
 ⟨some 51,none,.idxA 5,[.t 49,.t 50]⟩,
 ⟨some 52,none,.fldA 1,[.t 51]⟩,
 ⟨some 53,none,.load (some 2),[.t 52]⟩,
 ⟨some 54,none,.mov,[.t 0]⟩,
 ⟨some 55,none,.mov,[.t 4]⟩,
 ⟨some 56,none,.idxA 5,[.t 54,.t 55]⟩,
 ⟨some 57,none,.fldA 3,[.t 56]⟩,
 ⟨some 58,none,.load none,[.t 57]⟩,
 ⟨some 59,none,.call 16,[.t 48,.t 53,.t 58]⟩])))
 .skip)))
 (.reg []
 [⟨some 22,none,.mov,[.t 4]⟩,
 ⟨some 23,none,.bin .add .scal,[.t 22,.c (.int .i64 1)]⟩,
 ⟨some 4,none,.mov,[.t 23]⟩]))
def ac4_2:AC :=
 .seq (.seq (.reg []
 [⟨some 73,none,.mov,[.t 7]⟩,
 ⟨some 74,none,.mov,[.t 6]⟩,
 ⟨some 75,none,.bin .lss .scal,[.t 73,.t 74]⟩])
 (.cond (.t 75)
 .skip
 (.exit 4)))
 (.seq (.block 5 (.seq (.reg [[],[],[],[1,2],[3],[4],[],[0,5,6],[],[],[],[9,10],[11],[12],[],[8,13,14,7],[7,15,0,1,2,3,4,5,6,7],[15,16,0,1,2,3,4,5,6,7,8,9,10,11,12,13,14,15,16]]
 [⟨some 78,none,.mov,[.t 3]⟩,
 ⟨some 79,none,.mov,[.t 5]⟩,
 ⟨some 80,none,.mov,[.t 6]⟩,
 ⟨some 81,none,.idxA 3,[.t 79,.t 80]⟩,
 ⟨some 82,none,.fldA 0,[.t 81]⟩,
 ⟨some 83,none,.load (some 2),[.t 82]⟩,
 ⟨some 84,none,.mov,[.t 5]⟩,
 ⟨some 85,none,.call 18,[.t 78,.t 83,.t 84]⟩,
 ⟨some 86,none,.mov,[.t 3]⟩,
 ⟨some 87,none,.mov,[.t 5]⟩,
 ⟨some 88,none,.mov,[.t 7]⟩,
 ⟨some 89,none,.idxA 3,[.t 87,.t 88]⟩,
 ⟨some 90,none,.fldA 0,[.t 89]⟩,
 ⟨some 91,none,.load (some 2),[.t 90]⟩,
 ⟨some 92,none,.mov,[.t 5]⟩,
 ⟨some 93,none,.call 18,[.t 86,.t 91,.t 92]⟩,
 ⟨some 8,none,.mov,[.t 85]⟩,
 ⟨some 9,none,.mov,[.t 93]⟩])
 (.seq (.reg [[],[0],[1],[2],[3],[4,3],[5,3],[3,6],[7,3],[8],[8],[9,10,8],[11,8],[12,8],[8],[8],[14,15,8],[16,8],[17,8],[13,18,8],[8],[20,8,8],[8],[22,21,8],[21,23,23,8],[19,24,8],[8,25]]
 [⟨some 94,none,.mov,[.t 8]⟩,
 ⟨some 95,none,.lenL,[.t 94]⟩,
 ⟨some 96,none,.bin .gtr .scal,[.t 95,.c (.int .i64 0)]⟩,
 ⟨some 97,none,.mov,[.t 96]⟩,
 ⟨some 98,some (97,true),.mov,[.t 9]⟩,
 ⟨some 99,some (97,true),.lenL,[.t 98]⟩,
 ⟨some 100,some (97,true),.bin .gtr .scal,[.t 99,.c (.int .i64 0)]⟩,
 ⟨some 101,none,.pick,[.t 97,.t 100,.c (.bool false)]⟩,
 ⟨some 102,none,.mov,[.t 101]⟩,
 ⟨some 103,some (102,true),.mov,[.t 5]⟩,
 ⟨some 104,some (102,true),.mov,[.t 6]⟩,
 ⟨some 105,some (102,true),.idxA 3,[.t 103,.t 104]⟩,
 ⟨some 106,some (102,true),.fldA 2,[.t 105]⟩,
 ⟨some 107,some (102,true),.load none,[.t 106]⟩,
 ⟨some 108,some (102,true),.mov,[.t 5]⟩,
 ⟨some 109,some (102,true),.mov,[.t 7]⟩,
 ⟨some 110,some (102,true),.idxA 3,[.t 108,.t 109]⟩,
 ⟨some 111,some (102,true),.fldA 2,[.t 110]⟩,
 ⟨some 112,some (102,true),.load none,[.t 111]⟩,
 ⟨some 113,some (102,true),.bin .eql .scal,[.t 107,.t 112]⟩,
 ⟨some 114,some (102,true),.mov,[.t 8]⟩,
 ⟨some 115,some (102,true),.call 14,[.t 114]⟩,
 ⟨some 116,some (102,true),.mov,[.t 9]⟩,
 ⟨some 117,some (102,true),.call 14,[.t 116]⟩,
 ⟨some 118,some (102,true),.call 13,[.t 115,.t 117]⟩,
 ⟨some 119,some (102,true),.bin .neq .bool,[.t 113,.t 118]⟩,
 ⟨some 120,none,.pick,[.t 102,.t 119,.c (.bool false)]⟩])
 (.cond (.t 120)
 (.seq (.reg []
 [⟨some 2,none,.mov,[.c (.bool false)]⟩])
 .ret)
 .skip))))
 (.reg []
 [⟨some 76,none,.mov,[.t 7]⟩,
 ⟨some 77,none,.bin .add .scal,[.t 76,.c (.int .i64 1)]⟩,
 ⟨some 7,none,.mov,[.t 77]⟩]))
def ac4_3:AC :=
 .seq (.seq (.reg []
 [⟨some 67,none,.mov,[.t 6]⟩,
 ⟨some 68,none,.mov,[.t 5]⟩,
 ⟨some 69,none,.lenL,[.t 68]⟩,
 ⟨some 70,none,.bin .lss .scal,[.t 67,.t 69]⟩])
 (.cond (.t 70)
 .skip
 (.exit 2)))
 (.seq (.block 3 (.seq (.reg []
 [⟨some 7,none,.mov,[.c (.int .i64 0)]⟩])
 (.block 4 (.loop ac4_2))))
 (.reg []
 [⟨some 71,none,.mov,[.t 6]⟩,
 ⟨some 72,none,.bin .add .scal,[.t 71,.c (.int .i64 1)]⟩,
 ⟨some 6,none,.mov,[.t 72]⟩]))
def ac4_4:AC :=
 .seq (.seq (.reg []
 [⟨some 121,none,.mov,[.t 10]⟩,
 ⟨some 122,none,.mov,[.t 5]⟩,
 ⟨some 123,none,.lenL,[.t 122]⟩,
 ⟨some 124,none,.bin .lss .scal,[.t 121,.t 123]⟩])
 (.cond (.t 124)
 .skip
 (.exit 6)))
 (.seq (.block 7 (.seq (.reg []
 [⟨some 127,none,.mov,[.t 3]⟩,
 ⟨some 128,none,.mov,[.t 5]⟩,
 ⟨some 129,none,.mov,[.t 10]⟩,
 ⟨some 130,none,.idxA 3,[.t 128,.t 129]⟩,
 ⟨some 131,none,.fldA 0,[.t 130]⟩,
 ⟨some 132,none,.load (some 2),[.t 131]⟩,
 ⟨some 133,none,.call 19,[.t 127,.t 132]⟩,
 ⟨some 134,none,.unNot,[.t 133]⟩])
 (.cond (.t 134)
 (.seq (.reg []
 [⟨some 2,none,.mov,[.c (.bool false)]⟩])
 .ret)
 .skip)))
 (.reg []
 [⟨some 125,none,.mov,[.t 10]⟩,
 ⟨some 126,none,.bin .add .scal,[.t 125,.c (.int .i64 1)]⟩,
 ⟨some 10,none,.mov,[.t 126]⟩]))
def ac4:AC :=
 .seq (.reg []
 [⟨some 2,none,.mov,[.c (.bool false)]⟩])
 (.seq (.reg []
 [⟨some 11,none,.call 5,[]⟩,
 ⟨some 3,none,.mov,[.t 11]⟩])
 (.seq (.seq (.reg []
 [⟨some 12,none,.mov,[.t 3]⟩,
 ⟨some 13,none,.bin .eql .ptr,[.t 12,.c .nilp]⟩])
 (.cond (.t 13)
 (.seq (.reg []
 [⟨some 2,none,.mov,[.c (.bool false)]⟩])
 .ret)
 .skip))
 (.seq (.seq (.reg []
 [⟨some 4,none,.mov,[.c (.int .i64 0)]⟩])
 (.block 0 (.loop ac4_1)))
 (.seq (.reg []
 [⟨some 60,none,.mov,[.t 3]⟩,
 ⟨some 61,none,.call 12,[.t 60]⟩,
 ⟨some 5,none,.mov,[.t 61]⟩])
 (.seq (.seq (.reg []
 [⟨some 62,none,.mov,[.t 3]⟩,
 ⟨some 63,none,.call 17,[.t 62]⟩,
 ⟨some 64,none,.mov,[.t 5]⟩,
 ⟨some 65,none,.lenL,[.t 64]⟩,
 ⟨some 66,none,.bin .gtr .scal,[.t 63,.t 65]⟩])
 (.cond (.t 66)
 (.seq (.reg []
 [⟨some 2,none,.mov,[.c (.bool false)]⟩])
 .ret)
 .skip))
 (.seq (.seq (.reg []
 [⟨some 6,none,.mov,[.c (.int .i64 0)]⟩])
 (.block 2 (.loop ac4_3)))
 (.seq (.seq (.reg []
 [⟨some 10,none,.mov,[.c (.int .i64 0)]⟩])
 (.block 6 (.loop ac4_4)))
 (.seq (.reg []
 [⟨some 135,none,.call 7,[]⟩,
 ⟨some 136,none,.mov,[.t 135]⟩,
 ⟨some 137,some (136,true),.mov,[.t 3]⟩,
 ⟨some 138,some (136,true),.call 17,[.t 137]⟩,
 ⟨some 139,some (136,true),.bin .eql .scal,[.t 138,.c (.int .i64 0)]⟩,
 ⟨some 140,none,.pick,[.t 136,.t 139,.c (.bool false)]⟩,
 ⟨some 141,none,.mov,[.t 140]⟩,
 ⟨some 142,some (141,true),.mov,[.t 3]⟩,
 ⟨some 143,some (141,true),.call 12,[.t 142]⟩,
 ⟨some 144,some (141,true),.lenL,[.t 143]⟩,
 ⟨some 145,some (141,true),.bin .eql .scal,[.t 144,.c (.int .i64 0)]⟩,
 ⟨some 146,none,.pick,[.t 141,.t 145,.c (.bool false)]⟩,
 ⟨some 2,none,.mov,[.t 146]⟩])
 .ret))))))))
theorem i4:fnInfo Tryz.prog 4 = some (147,[.t 2],ac4):=by kernel_rfl
def ac5:AC :=
 .seq (.reg []
 [⟨some 0,none,.mov,[.c .nilp]⟩])
 (.seq (.reg []
 [⟨some 1,none,.call 20,[]⟩,
 ⟨some 2,none,.mq .mk,[]⟩,
 ⟨some 3,none,.build [.nilp,.nils,.nilm] [(0,1),(2,1)],[.t 1,.t 2]⟩,
 ⟨some 4,none,.box,[.t 3]⟩,
 ⟨some 0,none,.mov,[.t 4]⟩])
 .ret)
theorem i5:fnInfo Tryz.prog 5 = some (5,[.t 0],ac5):=by kernel_rfl
def ac6_1:AC :=
 .seq (.seq (.reg []
 [⟨some 14,none,.mov,[.t 3]⟩,
 ⟨some 15,none,.fldA 4,[.t 1]⟩,
 ⟨some 16,none,.load none,[.t 15]⟩,
 ⟨some 17,none,.lenL,[.t 16]⟩,
 ⟨some 18,none,.bin .lss .scal,[.t 14,.t 17]⟩])
 (.cond (.t 18)
 .skip
 (.exit 0)))
 (.seq (.block 1 (.seq (.reg []
 [⟨some 21,none,.fldA 4,[.t 1]⟩,
 ⟨some 22,none,.load none,[.t 21]⟩,
 ⟨some 23,none,.mov,[.t 3]⟩,
 ⟨some 24,none,.idxA 10,[.t 22,.t 23]⟩,
 ⟨some 25,none,.fldA 9,[.t 24]⟩,
 ⟨some 26,none,.load none,[.t 25]⟩,
 ⟨some 27,none,.lenL,[.t 26]⟩,
 ⟨some 28,none,.bin .gtr .scal,[.t 27,.c (.int .i64 20)]⟩])
 (.cond (.t 28)
 (.seq (.reg []
 [⟨some 2,none,.mov,[.c (.bool false)]⟩])
 .ret)
 .skip)))
 (.reg []
 [⟨some 19,none,.mov,[.t 3]⟩,
 ⟨some 20,none,.bin .add .scal,[.t 19,.c (.int .i64 1)]⟩,
 ⟨some 3,none,.mov,[.t 20]⟩]))
def ac6:AC :=
 .seq (.reg []
 [⟨some 1,none,.box,[.t 0]⟩,
 ⟨some 2,none,.mov,[.c (.bool false)]⟩])
 (.seq (.seq (.reg []
 [⟨some 4,none,.fldA 3,[.t 1]⟩,
 ⟨some 5,none,.load none,[.t 4]⟩,
 ⟨some 6,none,.lenL,[.t 5]⟩,
 ⟨some 7,none,.bin .gtr .scal,[.t 6,.c (.int .i64 20)]⟩,
 ⟨some 8,none,.mov,[.t 7]⟩,
 ⟨some 9,some (8,false),.fldA 4,[.t 1]⟩,
 ⟨some 10,some (8,false),.load none,[.t 9]⟩,
 ⟨some 11,some (8,false),.lenL,[.t 10]⟩,
 ⟨some 12,some (8,false),.bin .gtr .scal,[.t 11,.c (.int .i64 40)]⟩,
 ⟨some 13,none,.pick,[.t 8,.c (.bool true),.t 12]⟩])
 (.cond (.t 13)
 (.seq (.reg []
 [⟨some 2,none,.mov,[.c (.bool false)]⟩])
 .ret)
 .skip))
 (.seq (.seq (.reg []
 [⟨some 3,none,.mov,[.c (.int .i64 0)]⟩])
 (.block 0 (.loop ac6_1)))
 (.seq (.reg []
 [⟨some 2,none,.mov,[.c (.bool true)]⟩])
 .ret)))
theorem i6:fnInfo Tryz.prog 6 = some (29,[.t 2],ac6):=by kernel_rfl
def ac7:AC :=
 .seq (.reg []
 [⟨some 0,none,.mov,[.c (.bool false)]⟩])
 (.seq (.reg []
 [⟨some 8,none,.call 5,[]⟩,
 ⟨some 1,none,.mov,[.t 8]⟩])
 (.seq (.seq (.reg []
 [⟨some 9,none,.mov,[.t 1]⟩,
 ⟨some 10,none,.bin .eql .ptr,[.t 9,.c .nilp]⟩])
 (.cond (.t 10)
 (.seq (.reg []
 [⟨some 0,none,.mov,[.c (.bool false)]⟩])
 .ret)
 .skip))
 (.seq (.reg []
 [⟨some 11,none,.build [.int .i64 0,.int .u32 0] [(0,1)],[.c (.int .i64 3)]⟩,
 ⟨some 12,none,.build [.int .i64 0,.int .u32 0] [(0,1)],[.c (.int .i64 1)]⟩,
 ⟨some 13,none,.build [.int .i64 0,.int .u32 0] [(0,1)],[.c (.int .i64 3)]⟩,
 ⟨some 14,none,.bslice 2 63,[.t 11,.t 12,.t 13]⟩,
 ⟨some 2,none,.mov,[.t 14]⟩])
 (.seq (.reg []
 [⟨some 15,none,.mov,[.t 1]⟩,
 ⟨some 16,none,.build [.int .u32 0,.int .i64 0] [],[]⟩,
 ⟨some 17,none,.mov,[.t 2]⟩,
 ⟨some 18,none,.call 16,[.t 15,.t 16,.t 17]⟩,
 ⟨some 19,none,.mov,[.t 1]⟩,
 ⟨some 20,none,.build [.int .u32 0,.int .i64 0] [(0,1),(1,1)],[.c (.int .u32 2147483648),.c (.int .i64 1)]⟩,
 ⟨some 21,none,.mov,[.t 2]⟩,
 ⟨some 22,none,.call 16,[.t 19,.t 20,.t 21]⟩,
 ⟨some 3,none,.mov,[.t 18]⟩,
 ⟨some 4,none,.mov,[.t 22]⟩])
 (.seq (.reg []
 [⟨some 24,none,.mov,[.t 1]⟩,
 ⟨some 25,none,.call 11,[.t 24,.c (.int .u32 2147483648)]⟩,
 ⟨some 23,none,.mov,[.t 25]⟩,
 ⟨some 26,none,.ext 0,[.t 23]⟩,
 ⟨some 27,none,.ext 1,[.t 23]⟩,
 ⟨some 28,none,.ext 2,[.t 23]⟩,
 ⟨some 5,none,.alloc [.int .u32 0,.int .i64 0],[]⟩,
 ⟨none,none,.store 2,[.t 5,.t 26]⟩,
 ⟨some 6,none,.mov,[.t 27]⟩,
 ⟨some 7,none,.mov,[.t 28]⟩])
 (.seq (.reg []
 [⟨some 29,none,.mov,[.t 3]⟩,
 ⟨some 30,none,.bin .eql .scal,[.t 29,.c (.int .i64 0)]⟩,
 ⟨some 31,none,.mov,[.t 30]⟩,
 ⟨some 32,some (31,true),.mov,[.t 4]⟩,
 ⟨some 33,some (31,true),.bin .eql .scal,[.t 32,.c (.int .i64 0)]⟩,
 ⟨some 34,none,.pick,[.t 31,.t 33,.c (.bool false)]⟩,
 ⟨some 35,none,.mov,[.t 34]⟩,
 ⟨some 36,some (35,true),.mov,[.t 1]⟩,
 ⟨some 37,some (35,true),.call 17,[.t 36]⟩,
 ⟨some 38,some (35,true),.bin .eql .scal,[.t 37,.c (.int .i64 1)]⟩,
 ⟨some 39,none,.pick,[.t 35,.t 38,.c (.bool false)]⟩,
 ⟨some 40,none,.mov,[.t 39]⟩,
 ⟨some 41,some (40,true),.mov,[.t 7]⟩,
 ⟨some 42,none,.pick,[.t 40,.t 41,.c (.bool false)]⟩,
 ⟨some 43,none,.mov,[.t 42]⟩,
 ⟨some 44,some (43,true),.fldA 1,[.t 5]⟩,
 ⟨some 45,some (43,true),.load none,[.t 44]⟩,
 ⟨some 46,some (43,true),.bin .eql .scal,[.t 45,.c (.int .i64 1)]⟩,
 ⟨some 47,none,.pick,[.t 43,.t 46,.c (.bool false)]⟩,
 ⟨some 48,none,.mov,[.t 47]⟩,
 ⟨some 49,some (48,true),.mov,[.t 6]⟩,
 ⟨some 50,some (48,true),.lenL,[.t 49]⟩,
 ⟨some 51,some (48,true),.bin .eql .scal,[.t 50,.c (.int .i64 2)]⟩,
 ⟨some 52,none,.pick,[.t 48,.t 51,.c (.bool false)]⟩,
 ⟨some 53,none,.mov,[.t 52]⟩,
 ⟨some 54,some (53,true),.mov,[.t 6]⟩,
 ⟨some 55,some (53,true),.idxA 2,[.t 54,.c (.int .i64 0)]⟩,
 ⟨some 56,some (53,true),.fldA 0,[.t 55]⟩,
 ⟨some 57,some (53,true),.load none,[.t 56]⟩,
 ⟨some 58,some (53,true),.bin .eql .scal,[.t 57,.c (.int .i64 1)]⟩,
 ⟨some 59,none,.pick,[.t 53,.t 58,.c (.bool false)]⟩,
 ⟨some 0,none,.mov,[.t 59]⟩])
 .ret))))))
theorem i7:fnInfo Tryz.prog 7 = some (60,[.t 0],ac7):=by kernel_rfl
def ac8_1:AC :=
 .seq (.seq (.reg []
 [⟨some 14,none,.mov,[.t 3]⟩,
 ⟨some 15,none,.bin .lss .scal,[.t 14,.c (.int .i64 32)]⟩])
 (.cond (.t 15)
 .skip
 (.exit 0)))
 (.seq (.block 1 (.seq (.reg []
 [⟨some 18,none,.fldA 0,[.t 1]⟩,
 ⟨some 19,none,.load none,[.t 18]⟩,
 ⟨some 20,none,.mov,[.t 3]⟩,
 ⟨some 21,none,.call 21,[.t 19,.t 20]⟩,
 ⟨some 22,none,.bin .eql .scal,[.t 21,.c (.int .i64 1)]⟩])
 (.cond (.t 22)
 (.seq (.reg []
 [⟨some 2,none,.mov,[.c (.bool false)]⟩])
 .ret)
 .skip)))
 (.reg []
 [⟨some 16,none,.mov,[.t 3]⟩,
 ⟨some 17,none,.bin .add .scal,[.t 16,.c (.int .i64 1)]⟩,
 ⟨some 3,none,.mov,[.t 17]⟩]))
def ac8:AC :=
 .seq (.reg []
 [⟨some 1,none,.box,[.t 0]⟩,
 ⟨some 2,none,.mov,[.c (.bool false)]⟩])
 (.seq (.seq (.reg []
 [⟨some 4,none,.fldA 1,[.t 1]⟩,
 ⟨some 5,none,.load none,[.t 4]⟩,
 ⟨some 6,none,.bin .lss .scal,[.t 5,.c (.int .i64 0)]⟩,
 ⟨some 7,none,.mov,[.t 6]⟩,
 ⟨some 8,some (7,false),.fldA 1,[.t 1]⟩,
 ⟨some 9,some (7,false),.load none,[.t 8]⟩,
 ⟨some 10,some (7,false),.bin .gtr .scal,[.t 9,.c (.int .i64 32)]⟩,
 ⟨some 11,none,.pick,[.t 7,.c (.bool true),.t 10]⟩])
 (.cond (.t 11)
 (.seq (.reg []
 [⟨some 2,none,.mov,[.c (.bool false)]⟩])
 .ret)
 .skip))
 (.seq (.seq (.reg []
 [⟨some 12,none,.fldA 1,[.t 1]⟩,
 ⟨some 13,none,.load none,[.t 12]⟩,
 ⟨some 3,none,.mov,[.t 13]⟩])
 (.block 0 (.loop ac8_1)))
 (.seq (.reg []
 [⟨some 2,none,.mov,[.c (.bool true)]⟩])
 .ret)))
theorem i8:fnInfo Tryz.prog 8 = some (23,[.t 2],ac8):=by kernel_rfl
def ac9_1:AC :=
 .seq (.seq (.reg []
 [⟨some 9,none,.mov,[.t 5]⟩,
 ⟨some 10,none,.fldA 1,[.t 2]⟩,
 ⟨some 11,none,.load none,[.t 10]⟩,
 ⟨some 12,none,.bin .lss .scal,[.t 9,.t 11]⟩])
 (.cond (.t 12)
 .skip
 (.exit 0)))
 (.seq (.block 1 (.seq (.reg []
 [⟨some 15,none,.fldA 0,[.t 2]⟩,
 ⟨some 16,none,.load none,[.t 15]⟩,
 ⟨some 17,none,.mov,[.t 5]⟩,
 ⟨some 18,none,.call 21,[.t 16,.t 17]⟩,
 ⟨some 19,none,.mov,[.t 1]⟩,
 ⟨some 20,none,.mov,[.t 5]⟩,
 ⟨some 21,none,.call 21,[.t 19,.t 20]⟩,
 ⟨some 22,none,.bin .neq .scal,[.t 18,.t 21]⟩])
 (.cond (.t 22)
 (.seq (.reg []
 [⟨some 4,none,.mov,[.c (.bool false)]⟩])
 .ret)
 .skip)))
 (.reg []
 [⟨some 13,none,.mov,[.t 5]⟩,
 ⟨some 14,none,.bin .add .scal,[.t 13,.c (.int .i64 1)]⟩,
 ⟨some 5,none,.mov,[.t 14]⟩]))
def ac9:AC :=
 .seq (.reg []
 [⟨some 2,none,.box,[.t 0]⟩,
 ⟨some 4,none,.mov,[.c (.bool false)]⟩])
 (.seq (.seq (.reg []
 [⟨some 6,none,.load (some 2),[.t 2]⟩,
 ⟨some 7,none,.call 8,[.t 6]⟩,
 ⟨some 8,none,.unNot,[.t 7]⟩])
 (.cond (.t 8)
 (.seq (.reg []
 [⟨some 4,none,.mov,[.c (.bool false)]⟩])
 .ret)
 .skip))
 (.seq (.seq (.reg []
 [⟨some 5,none,.mov,[.c (.int .i64 0)]⟩])
 (.block 0 (.loop ac9_1)))
 (.seq (.reg []
 [⟨some 4,none,.mov,[.c (.bool true)]⟩])
 .ret)))
theorem i9:fnInfo Tryz.prog 9 = some (23,[.t 4],ac9):=by kernel_rfl
def ac10_1:AC :=
 .seq (.reg []
 [⟨some 21,none,.bin .lss .scal,[.t 20,.t 19]⟩])
 (.seq (.cond (.t 21)
 .skip
 (.exit 0))
 (.seq (.block 1 (.seq (.reg []
 [⟨some 22,none,.idxA 10,[.t 18,.t 20]⟩,
 ⟨some 23,none,.load (some 10),[.t 22]⟩,
 ⟨some 8,none,.alloc [.int .u32 0,.int .i64 0,.int .i64 0,.int .i64 0,.int .i64 0,.int .i64 0,.int .u32 0,.bool false,.int .i64 0,.nils],[]⟩,
 ⟨none,none,.store 10,[.t 8,.t 23]⟩])
 (.reg []
 [⟨some 24,none,.mov,[.t 6]⟩,
 ⟨some 25,none,.fldA 0,[.t 8]⟩,
 ⟨some 26,none,.load (some 2),[.t 25]⟩,
 ⟨none,none,.mapsetF [.int .u32,.int .i64],[.t 24,.t 26,.c (.bool true)]⟩])))
 (.reg []
 [⟨some 27,none,.bin .add .scal,[.t 20,.c (.int .i64 1)]⟩,
 ⟨some 20,none,.mov,[.t 27]⟩])))
def ac10_2:AC :=
 .seq (.reg []
 [⟨some 35,none,.bin .lss .scal,[.t 34,.t 33]⟩])
 (.seq (.cond (.t 35)
 .skip
 (.exit 2))
 (.seq (.block 3 (.seq (.reg []
 [⟨some 36,none,.idxA 3,[.t 32,.t 34]⟩,
 ⟨some 37,none,.load (some 3),[.t 36]⟩,
 ⟨some 12,none,.alloc [.int .u32 0,.int .i64 0,.int .i64 0],[]⟩,
 ⟨none,none,.store 3,[.t 12,.t 37]⟩])
 (.seq (.reg []
 [⟨some 38,none,.mov,[.t 6]⟩,
 ⟨some 39,none,.fldA 0,[.t 12]⟩,
 ⟨some 40,none,.load (some 2),[.t 39]⟩,
 ⟨some 41,none,.lookupF (.bool false) false [.int .u32,.int .i64],[.t 38,.t 40]⟩,
 ⟨some 42,none,.unNot,[.t 41]⟩])
 (.cond (.t 42)
 (.seq (.reg []
 [⟨some 43,none,.mov,[.t 0]⟩,
 ⟨some 44,none,.fldA 0,[.t 12]⟩,
 ⟨some 45,none,.load (some 2),[.t 44]⟩,
 ⟨some 46,none,.call 19,[.t 43,.t 45]⟩])
 (.reg []
 [⟨some 47,none,.mov,[.t 9]⟩,
 ⟨some 48,none,.bin .add .scal,[.t 47,.c (.int .i64 1)]⟩,
 ⟨some 9,none,.mov,[.t 48]⟩]))
 .skip))))
 (.reg []
 [⟨some 49,none,.bin .add .scal,[.t 34,.c (.int .i64 1)]⟩,
 ⟨some 34,none,.mov,[.t 49]⟩])))
def ac10_3:AC :=
 .seq (.reg []
 [⟨some 53,none,.bin .lss .scal,[.t 52,.t 51]⟩])
 (.seq (.cond (.t 53)
 .skip
 (.exit 4))
 (.seq (.block 5 (.seq (.reg []
 [⟨some 54,none,.idxA 10,[.t 50,.t 52]⟩,
 ⟨some 55,none,.load (some 10),[.t 54]⟩,
 ⟨some 14,none,.alloc [.int .u32 0,.int .i64 0,.int .i64 0,.int .i64 0,.int .i64 0,.int .i64 0,.int .u32 0,.bool false,.int .i64 0,.nils],[]⟩,
 ⟨none,none,.store 10,[.t 14,.t 55]⟩])
 (.seq (.reg [[],[],[1],[],[3],[4],[0,2,5,5],[6],[7,6],[8],[8],[10,8],[8],[12,8],[9,11,13,8,8],[14,8],[8,15]]
 [⟨some 56,none,.mov,[.t 0]⟩,
 ⟨some 57,none,.fldA 0,[.t 14]⟩,
 ⟨some 58,none,.load (some 2),[.t 57]⟩,
 ⟨some 59,none,.fldA 9,[.t 14]⟩,
 ⟨some 60,none,.load none,[.t 59]⟩,
 ⟨some 61,none,.call 24,[.t 60]⟩,
 ⟨some 62,none,.call 23,[.t 56,.t 58,.t 61]⟩,
 ⟨some 63,none,.unNot,[.t 62]⟩,
 ⟨some 64,none,.mov,[.t 63]⟩,
 ⟨some 65,some (64,true),.mov,[.t 0]⟩,
 ⟨some 66,some (64,true),.fldA 0,[.t 14]⟩,
 ⟨some 67,some (64,true),.load (some 2),[.t 66]⟩,
 ⟨some 68,some (64,true),.fldA 9,[.t 14]⟩,
 ⟨some 69,some (64,true),.load none,[.t 68]⟩,
 ⟨some 70,some (64,true),.call 16,[.t 65,.t 67,.t 69]⟩,
 ⟨some 71,some (64,true),.bin .eql .scal,[.t 70,.c (.int .i64 0)]⟩,
 ⟨some 72,none,.pick,[.t 64,.t 71,.c (.bool false)]⟩])
 (.cond (.t 72)
 (.reg []
 [⟨some 73,none,.mov,[.t 10]⟩,
 ⟨some 74,none,.bin .add .scal,[.t 73,.c (.int .i64 1)]⟩,
 ⟨some 10,none,.mov,[.t 74]⟩])
 .skip))))
 (.reg []
 [⟨some 75,none,.bin .add .scal,[.t 52,.c (.int .i64 1)]⟩,
 ⟨some 52,none,.mov,[.t 75]⟩])))
def ac10:AC :=
 .seq (.reg []
 [⟨some 4,none,.mov,[.c (.int .i64 0)]⟩,
 ⟨some 5,none,.mov,[.c (.int .i64 0)]⟩])
 (.seq (.seq (.reg []
 [⟨some 15,none,.mov,[.t 0]⟩,
 ⟨some 16,none,.bin .eql .ptr,[.t 15,.c .nilp]⟩])
 (.cond (.t 16)
 (.seq (.reg []
 [⟨some 4,none,.mov,[.c (.int .i64 0)]⟩,
 ⟨some 5,none,.mov,[.c (.int .i64 0)]⟩])
 .ret)
 .skip))
 (.seq (.reg []
 [⟨some 17,none,.mkmap,[]⟩,
 ⟨some 6,none,.mov,[.t 17]⟩])
 (.seq (.seq (.reg []
 [⟨some 18,none,.mov,[.t 1]⟩,
 ⟨some 19,none,.lenL,[.t 18]⟩,
 ⟨some 20,none,.mov,[.c (.int .i64 0)]⟩])
 (.block 0 (.loop ac10_1)))
 (.seq (.reg []
 [⟨some 9,none,.mov,[.c (.int .i64 0)]⟩,
 ⟨some 10,none,.mov,[.c (.int .i64 0)]⟩])
 (.seq (.seq (.reg []
 [⟨some 28,none,.mov,[.t 0]⟩,
 ⟨some 29,none,.nilchk,[.t 28]⟩,
 ⟨some 30,none,.fldA 0,[.t 29]⟩,
 ⟨some 31,none,.load none,[.t 30]⟩,
 ⟨some 32,none,.call 22,[.t 31]⟩,
 ⟨some 33,none,.lenL,[.t 32]⟩,
 ⟨some 34,none,.mov,[.c (.int .i64 0)]⟩])
 (.block 2 (.loop ac10_2)))
 (.seq (.seq (.reg []
 [⟨some 50,none,.mov,[.t 1]⟩,
 ⟨some 51,none,.lenL,[.t 50]⟩,
 ⟨some 52,none,.mov,[.c (.int .i64 0)]⟩])
 (.block 4 (.loop ac10_3)))
 (.seq (.reg []
 [⟨some 76,none,.mov,[.t 9]⟩,
 ⟨some 77,none,.mov,[.t 10]⟩,
 ⟨some 4,none,.mov,[.t 76]⟩,
 ⟨some 5,none,.mov,[.t 77]⟩])
 .ret)))))))
theorem i10:fnInfo Tryz.prog 10 = some (78,[.t 4,.t 5],ac10):=by kernel_rfl
def ac11:AC :=
 .seq (.reg []
 [⟨some 4,none,.alloc [.int .u32 0,.int .i64 0],[]⟩,
 ⟨some 5,none,.mov,[.c .nils]⟩,
 ⟨some 6,none,.mov,[.c (.bool false)]⟩])
 (.seq (.seq (.reg []
 [⟨some 9,none,.mov,[.t 0]⟩,
 ⟨some 10,none,.bin .eql .ptr,[.t 9,.c .nilp]⟩])
 (.cond (.t 10)
 (.seq (.reg []
 [⟨some 11,none,.build [.int .u32 0,.int .i64 0] [],[]⟩,
 ⟨none,none,.store 2,[.t 4,.t 11]⟩,
 ⟨some 5,none,.mov,[.c .nils]⟩,
 ⟨some 6,none,.mov,[.c (.bool false)]⟩])
 .ret)
 .skip))
 (.seq (.reg []
 [⟨some 13,none,.mov,[.t 0]⟩,
 ⟨some 14,none,.nilchk,[.t 13]⟩,
 ⟨some 15,none,.fldA 0,[.t 14]⟩,
 ⟨some 16,none,.load none,[.t 15]⟩,
 ⟨some 17,none,.mov,[.t 1]⟩,
 ⟨some 18,none,.call 25,[.t 16,.t 17]⟩,
 ⟨some 12,none,.mov,[.t 18]⟩,
 ⟨some 19,none,.ext 0,[.t 12]⟩,
 ⟨some 20,none,.ext 1,[.t 12]⟩,
 ⟨some 7,none,.alloc [.int .u32 0,.int .i64 0,.int .i64 0],[]⟩,
 ⟨none,none,.store 3,[.t 7,.t 19]⟩,
 ⟨some 8,none,.mov,[.t 20]⟩])
 (.seq (.seq (.reg []
 [⟨some 21,none,.mov,[.t 8]⟩,
 ⟨some 22,none,.unNot,[.t 21]⟩])
 (.cond (.t 22)
 (.seq (.reg []
 [⟨some 23,none,.build [.int .u32 0,.int .i64 0] [],[]⟩,
 ⟨none,none,.store 2,[.t 4,.t 23]⟩,
 ⟨some 5,none,.mov,[.c .nils]⟩,
 ⟨some 6,none,.mov,[.c (.bool false)]⟩])
 .ret)
 .skip))
 (.seq (.reg [[],[0],[],[2],[3],[4],[],[6],[5,7],[8],[9],[10],[1,11,0,1],[11,12,0,1,2,3,4,5,6,7,8,9,10,11,12],[13,0,1,2,3,4,5,6,7,8,9,10,11,12,13]]
 [⟨some 24,none,.fldA 0,[.t 7]⟩,
 ⟨some 25,none,.load (some 2),[.t 24]⟩,
 ⟨some 26,none,.mov,[.t 0]⟩,
 ⟨some 27,none,.nilchk,[.t 26]⟩,
 ⟨some 28,none,.fldA 1,[.t 27]⟩,
 ⟨some 29,none,.load none,[.t 28]⟩,
 ⟨some 30,none,.fldA 2,[.t 7]⟩,
 ⟨some 31,none,.load none,[.t 30]⟩,
 ⟨some 32,none,.idxA 3,[.t 29,.t 31]⟩,
 ⟨some 33,none,.fldA 0,[.t 32]⟩,
 ⟨some 34,none,.load none,[.t 33]⟩,
 ⟨some 35,none,.call 26,[.t 34]⟩,
 ⟨none,none,.store 2,[.t 4,.t 25]⟩,
 ⟨some 5,none,.mov,[.t 35]⟩,
 ⟨some 6,none,.mov,[.c (.bool true)]⟩])
 .ret))))
theorem i11:fnInfo Tryz.prog 11 = some (36,[.c 4 (some 2),.t 5,.t 6],ac11):=by kernel_rfl
def ac12:AC :=
 .seq (.reg []
 [⟨some 2,none,.mov,[.c .nils]⟩])
 (.seq (.seq (.reg []
 [⟨some 3,none,.mov,[.t 0]⟩,
 ⟨some 4,none,.bin .eql .ptr,[.t 3,.c .nilp]⟩])
 (.cond (.t 4)
 (.seq (.reg []
 [⟨some 2,none,.mov,[.c .nils]⟩])
 .ret)
 .skip))
 (.seq (.reg []
 [⟨some 5,none,.mov,[.t 0]⟩,
 ⟨some 6,none,.nilchk,[.t 5]⟩,
 ⟨some 7,none,.fldA 0,[.t 6]⟩,
 ⟨some 8,none,.load none,[.t 7]⟩,
 ⟨some 9,none,.call 22,[.t 8]⟩,
 ⟨some 2,none,.mov,[.t 9]⟩])
 .ret))
theorem i12:fnInfo Tryz.prog 12 = some (10,[.t 2],ac12):=by kernel_rfl
def ac13_1:AC :=
 .seq (.seq (.reg []
 [⟨some 11,none,.mov,[.t 5]⟩,
 ⟨some 12,none,.mov,[.t 0]⟩,
 ⟨some 13,none,.lenL,[.t 12]⟩,
 ⟨some 14,none,.bin .lss .scal,[.t 11,.t 13]⟩])
 (.cond (.t 14)
 .skip
 (.exit 0)))
 (.seq (.block 1 (.seq (.reg [[],[],[0,1],[2],[],[],[4,5],[6],[3,7]]
 [⟨some 17,none,.mov,[.t 0]⟩,
 ⟨some 18,none,.mov,[.t 5]⟩,
 ⟨some 19,none,.idxA 2,[.t 17,.t 18]⟩,
 ⟨some 20,none,.load (some 2),[.t 19]⟩,
 ⟨some 21,none,.mov,[.t 1]⟩,
 ⟨some 22,none,.mov,[.t 5]⟩,
 ⟨some 23,none,.idxA 2,[.t 21,.t 22]⟩,
 ⟨some 24,none,.load (some 2),[.t 23]⟩,
 ⟨some 25,none,.bin .neq (.flat [.int .i64,.int .u32]),[.t 20,.t 24]⟩])
 (.cond (.t 25)
 (.seq (.reg []
 [⟨some 4,none,.mov,[.c (.bool false)]⟩])
 .ret)
 .skip)))
 (.reg []
 [⟨some 15,none,.mov,[.t 5]⟩,
 ⟨some 16,none,.bin .add .scal,[.t 15,.c (.int .i64 1)]⟩,
 ⟨some 5,none,.mov,[.t 16]⟩]))
def ac13:AC :=
 .seq (.reg []
 [⟨some 4,none,.mov,[.c (.bool false)]⟩])
 (.seq (.seq (.reg []
 [⟨some 6,none,.mov,[.t 0]⟩,
 ⟨some 7,none,.lenL,[.t 6]⟩,
 ⟨some 8,none,.mov,[.t 1]⟩,
 ⟨some 9,none,.lenL,[.t 8]⟩,
 ⟨some 10,none,.bin .neq .scal,[.t 7,.t 9]⟩])
 (.cond (.t 10)
 (.seq (.reg []
 [⟨some 4,none,.mov,[.c (.bool false)]⟩])
 .ret)
 .skip))
 (.seq (.seq (.reg []
 [⟨some 5,none,.mov,[.c (.int .i64 0)]⟩])
 (.block 0 (.loop ac13_1)))
 (.seq (.reg []
 [⟨some 4,none,.mov,[.c (.bool true)]⟩])
 .ret)))
theorem i13:fnInfo Tryz.prog 13 = some (26,[.t 4],ac13):=by kernel_rfl
def ac14_1:AC :=
 .seq (.seq (.reg []
 [⟨some 6,none,.mov,[.t 4]⟩,
 ⟨some 7,none,.mov,[.t 0]⟩,
 ⟨some 8,none,.lenL,[.t 7]⟩,
 ⟨some 9,none,.bin .lss .scal,[.t 6,.t 8]⟩])
 (.cond (.t 9)
 .skip
 (.exit 0)))
 (.seq (.block 1 (.reg [[],[],[],[1,2],[3],[4],[],[],[6,7],[8],[9],[5,10],[11],[0,12],[13,13,0,1,2,3,4,5,6,7,8,9,10,11,12,13]]
 [⟨some 12,none,.mov,[.t 3]⟩,
 ⟨some 13,none,.mov,[.t 0]⟩,
 ⟨some 14,none,.mov,[.t 4]⟩,
 ⟨some 15,none,.idxA 2,[.t 13,.t 14]⟩,
 ⟨some 16,none,.fldA 0,[.t 15]⟩,
 ⟨some 17,none,.load none,[.t 16]⟩,
 ⟨some 18,none,.mov,[.t 0]⟩,
 ⟨some 19,none,.mov,[.t 4]⟩,
 ⟨some 20,none,.idxA 2,[.t 18,.t 19]⟩,
 ⟨some 21,none,.fldA 1,[.t 20]⟩,
 ⟨some 22,none,.load none,[.t 21]⟩,
 ⟨some 23,none,.build [.int .i64 0,.int .u32 0] [(0,1),(1,1)],[.t 17,.t 22]⟩,
 ⟨some 24,none,.bslice 2 72,[.t 23]⟩,
 ⟨some 25,none,.append 2 72 16,[.t 12,.t 24]⟩,
 ⟨some 3,none,.mov,[.t 25]⟩]))
 (.reg []
 [⟨some 10,none,.mov,[.t 4]⟩,
 ⟨some 11,none,.bin .add .scal,[.t 10,.c (.int .i64 1)]⟩,
 ⟨some 4,none,.mov,[.t 11]⟩]))
def ac14:AC :=
 .seq (.reg []
 [⟨some 2,none,.mov,[.c .nils]⟩])
 (.seq (.reg []
 [⟨some 5,none,.bslice 2 72,[]⟩,
 ⟨some 3,none,.mov,[.t 5]⟩])
 (.seq (.seq (.reg []
 [⟨some 4,none,.mov,[.c (.int .i64 0)]⟩])
 (.block 0 (.loop ac14_1)))
 (.seq (.reg []
 [⟨some 26,none,.mov,[.t 3]⟩,
 ⟨some 2,none,.mov,[.t 26]⟩])
 .ret)))
theorem i14:fnInfo Tryz.prog 14 = some (27,[.t 2],ac14):=by kernel_rfl
def ac16:AC :=
 .seq (.reg []
 [⟨some 4,none,.box,[.t 1]⟩,
 ⟨some 6,none,.mov,[.c (.int .i64 0)]⟩])
 (.seq (.reg []
 [⟨some 9,none,.mov,[.t 2]⟩,
 ⟨some 10,none,.call 24,[.t 9]⟩,
 ⟨some 7,none,.mov,[.t 10]⟩])
 (.seq (.seq (.reg []
 [⟨some 11,none,.mov,[.t 0]⟩,
 ⟨some 12,none,.bin .eql .ptr,[.t 11,.c .nilp]⟩,
 ⟨some 13,none,.mov,[.t 12]⟩,
 ⟨some 14,some (13,false),.load (some 2),[.t 4]⟩,
 ⟨some 15,some (13,false),.call 28,[.t 14]⟩,
 ⟨some 16,some (13,false),.unNot,[.t 15]⟩,
 ⟨some 17,none,.pick,[.t 13,.c (.bool true),.t 16]⟩,
 ⟨some 18,none,.mov,[.t 17]⟩,
 ⟨some 19,some (18,false),.mov,[.t 7]⟩,
 ⟨some 20,some (18,false),.lenL,[.t 19]⟩,
 ⟨some 21,some (18,false),.bin .eql .scal,[.t 20,.c (.int .i64 0)]⟩,
 ⟨some 22,none,.pick,[.t 18,.c (.bool true),.t 21]⟩,
 ⟨some 23,none,.mov,[.t 22]⟩,
 ⟨some 24,some (23,false),.mov,[.t 7]⟩,
 ⟨some 25,some (23,false),.lenL,[.t 24]⟩,
 ⟨some 26,some (23,false),.bin .gtr .scal,[.t 25,.c (.int .i64 8)]⟩,
 ⟨some 27,none,.pick,[.t 23,.c (.bool true),.t 26]⟩])
 (.cond (.t 27)
 (.seq (.reg []
 [⟨some 6,none,.mov,[.c (.int .i64 1)]⟩])
 .ret)
 .skip))
 (.seq (.seq (.reg []
 [⟨some 28,none,.mov,[.t 0]⟩,
 ⟨some 29,none,.load (some 2),[.t 4]⟩,
 ⟨some 30,none,.mov,[.t 7]⟩,
 ⟨some 31,none,.call 23,[.t 28,.t 29,.t 30]⟩])
 (.cond (.t 31)
 (.seq (.reg []
 [⟨some 6,none,.mov,[.c (.int .i64 0)]⟩])
 .ret)
 .skip))
 (.seq (.seq (.reg []
 [⟨some 32,none,.mov,[.t 0]⟩,
 ⟨some 33,none,.load (some 2),[.t 4]⟩,
 ⟨some 34,none,.call 19,[.t 32,.t 33]⟩,
 ⟨some 35,none,.unNot,[.t 34]⟩])
 (.cond (.t 35)
 (.seq (.reg [[],[0],[1],[2],[],[3,4],[5,5,0,1,2,3,4,5]]
 [⟨some 36,none,.mov,[.t 0]⟩,
 ⟨some 37,none,.nilchk,[.t 36]⟩,
 ⟨some 38,none,.fldA 0,[.t 37]⟩,
 ⟨some 39,none,.load none,[.t 38]⟩,
 ⟨some 40,none,.load (some 2),[.t 4]⟩,
 ⟨some 41,none,.call 29,[.t 39,.t 40,.c (.int .i64 0)]⟩,
 ⟨some 8,none,.mov,[.t 41]⟩])
 (.seq (.reg []
 [⟨some 42,none,.mov,[.t 8]⟩,
 ⟨some 43,none,.bin .neq .scal,[.t 42,.c (.int .i64 0)]⟩])
 (.cond (.t 43)
 (.seq (.reg []
 [⟨some 44,none,.mov,[.t 8]⟩,
 ⟨some 6,none,.mov,[.t 44]⟩])
 .ret)
 .skip)))
 .skip))
 (.seq (.reg [[],[0],[1],[2],[],[],[],[5,6],[3,4,7,7],[8,8,0,1,2,3,4,5,6,7,8]]
 [⟨some 45,none,.mov,[.t 0]⟩,
 ⟨some 46,none,.nilchk,[.t 45]⟩,
 ⟨some 47,none,.fldA 0,[.t 46]⟩,
 ⟨some 48,none,.load none,[.t 47]⟩,
 ⟨some 49,none,.load (some 2),[.t 4]⟩,
 ⟨some 50,none,.mov,[.t 0]⟩,
 ⟨some 51,none,.mov,[.t 7]⟩,
 ⟨some 52,none,.call 30,[.t 50,.t 51]⟩,
 ⟨some 53,none,.call 29,[.t 48,.t 49,.t 52]⟩,
 ⟨some 6,none,.mov,[.t 53]⟩])
 .ret)))))
theorem i16:fnInfo Tryz.prog 16 = some (54,[.t 6],ac16):=by kernel_rfl
def ac17:AC :=
 .seq (.reg []
 [⟨some 2,none,.mov,[.c (.int .i64 0)]⟩])
 (.seq (.seq (.reg []
 [⟨some 3,none,.mov,[.t 0]⟩,
 ⟨some 4,none,.bin .eql .ptr,[.t 3,.c .nilp]⟩])
 (.cond (.t 4)
 (.seq (.reg []
 [⟨some 2,none,.mov,[.c (.int .i64 0)]⟩])
 .ret)
 .skip))
 (.seq (.reg []
 [⟨some 5,none,.mov,[.t 0]⟩,
 ⟨some 6,none,.nilchk,[.t 5]⟩,
 ⟨some 7,none,.fldA 2,[.t 6]⟩,
 ⟨some 8,none,.load none,[.t 7]⟩,
 ⟨some 9,none,.mq .len,[.t 8]⟩,
 ⟨some 2,none,.mov,[.t 9]⟩])
 .ret))
theorem i17:fnInfo Tryz.prog 17 = some (10,[.t 2],ac17):=by kernel_rfl
def ac18_1:AC :=
 .seq (.seq (.reg []
 [⟨some 11,none,.mov,[.t 7]⟩,
 ⟨some 12,none,.mov,[.t 2]⟩,
 ⟨some 13,none,.lenL,[.t 12]⟩,
 ⟨some 14,none,.bin .lss .scal,[.t 11,.t 13]⟩])
 (.cond (.t 14)
 .skip
 (.exit 0)))
 (.seq (.block 1 (.seq (.reg [[],[],[0,1],[2],[3],[4],[],[6],[5,7],[8],[9],[9],[10,11,9],[12,9],[13,9],[9],[15,9],[14,16,9,9],[9,17]]
 [⟨some 17,none,.mov,[.t 2]⟩,
 ⟨some 18,none,.mov,[.t 7]⟩,
 ⟨some 19,none,.idxA 3,[.t 17,.t 18]⟩,
 ⟨some 20,none,.fldA 0,[.t 19]⟩,
 ⟨some 21,none,.fldA 1,[.t 20]⟩,
 ⟨some 22,none,.load none,[.t 21]⟩,
 ⟨some 23,none,.fldA 1,[.t 4]⟩,
 ⟨some 24,none,.load none,[.t 23]⟩,
 ⟨some 25,none,.bin .gtr .scal,[.t 22,.t 24]⟩,
 ⟨some 26,none,.mov,[.t 25]⟩,
 ⟨some 27,some (26,true),.mov,[.t 2]⟩,
 ⟨some 28,some (26,true),.mov,[.t 7]⟩,
 ⟨some 29,some (26,true),.idxA 3,[.t 27,.t 28]⟩,
 ⟨some 30,some (26,true),.fldA 0,[.t 29]⟩,
 ⟨some 31,some (26,true),.load (some 2),[.t 30]⟩,
 ⟨some 32,some (26,true),.fldA 0,[.t 4]⟩,
 ⟨some 33,some (26,true),.load none,[.t 32]⟩,
 ⟨some 34,some (26,true),.call 9,[.t 31,.t 33]⟩,
 ⟨some 35,none,.pick,[.t 26,.t 34,.c (.bool false)]⟩])
 (.cond (.t 35)
 (.seq (.reg []
 [⟨some 6,none,.mov,[.c .nils]⟩])
 .ret)
 .skip)))
 (.reg []
 [⟨some 15,none,.mov,[.t 7]⟩,
 ⟨some 16,none,.bin .add .scal,[.t 15,.c (.int .i64 1)]⟩,
 ⟨some 7,none,.mov,[.t 16]⟩]))
def ac18:AC :=
 .seq (.reg []
 [⟨some 4,none,.box,[.t 1]⟩,
 ⟨some 6,none,.mov,[.c .nils]⟩])
 (.seq (.seq (.reg []
 [⟨some 7,none,.mov,[.c (.int .i64 0)]⟩])
 (.block 0 (.loop ac18_1)))
 (.seq (.reg []
 [⟨some 37,none,.mov,[.t 0]⟩,
 ⟨some 38,none,.fldA 0,[.t 4]⟩,
 ⟨some 39,none,.load none,[.t 38]⟩,
 ⟨some 40,none,.call 11,[.t 37,.t 39]⟩,
 ⟨some 36,none,.mov,[.t 40]⟩,
 ⟨some 41,none,.ext 0,[.t 36]⟩,
 ⟨some 42,none,.ext 1,[.t 36]⟩,
 ⟨some 43,none,.ext 2,[.t 36]⟩,
 ⟨some 8,none,.alloc [.int .u32 0,.int .i64 0],[]⟩,
 ⟨none,none,.store 2,[.t 8,.t 41]⟩,
 ⟨some 9,none,.mov,[.t 42]⟩,
 ⟨some 10,none,.mov,[.t 43]⟩])
 (.seq (.reg []
 [⟨some 44,none,.mov,[.t 9]⟩,
 ⟨some 6,none,.mov,[.t 44]⟩])
 .ret)))
theorem i18:fnInfo Tryz.prog 18 = some (45,[.t 6],ac18):=by kernel_rfl
def ac19:AC :=
 .seq (.reg []
 [⟨some 3,none,.box,[.t 1]⟩,
 ⟨some 4,none,.mov,[.c (.bool false)]⟩])
 (.seq (.seq (.reg []
 [⟨some 7,none,.mov,[.t 0]⟩,
 ⟨some 8,none,.bin .eql .ptr,[.t 7,.c .nilp]⟩])
 (.cond (.t 8)
 (.seq (.reg []
 [⟨some 4,none,.mov,[.c (.bool false)]⟩])
 .ret)
 .skip))
 (.seq (.reg [[],[0],[1],[2],[],[3,4],[5],[6],[6],[7,5,0,1,2,3,4,5,6,7],[8,9,0,1,2,3,4,5,6,7,8,9]]
 [⟨some 10,none,.mov,[.t 0]⟩,
 ⟨some 11,none,.nilchk,[.t 10]⟩,
 ⟨some 12,none,.fldA 0,[.t 11]⟩,
 ⟨some 13,none,.load none,[.t 12]⟩,
 ⟨some 14,none,.load (some 2),[.t 3]⟩,
 ⟨some 15,none,.call 31,[.t 13,.t 14]⟩,
 ⟨some 9,none,.mov,[.t 15]⟩,
 ⟨some 16,none,.ext 0,[.t 9]⟩,
 ⟨some 17,none,.ext 1,[.t 9]⟩,
 ⟨some 5,none,.mov,[.t 16]⟩,
 ⟨some 6,none,.mov,[.t 17]⟩])
 (.seq (.seq (.reg []
 [⟨some 18,none,.mov,[.t 6]⟩])
 (.cond (.t 18)
 (.seq (.reg [[],[0],[1],[2],[],[3,4]]
 [⟨some 19,none,.mov,[.t 0]⟩,
 ⟨some 20,none,.nilchk,[.t 19]⟩,
 ⟨some 21,none,.fldA 0,[.t 20]⟩,
 ⟨some 22,none,.load none,[.t 21]⟩,
 ⟨some 23,none,.load (some 2),[.t 3]⟩,
 ⟨some 24,none,.call 32,[.t 22,.t 23]⟩])
 (.reg []
 [⟨some 25,none,.mov,[.t 0]⟩,
 ⟨some 26,none,.mov,[.t 5]⟩,
 ⟨some 27,none,.call 33,[.t 25,.t 26]⟩]))
 .skip))
 (.seq (.reg []
 [⟨some 28,none,.mov,[.t 6]⟩,
 ⟨some 4,none,.mov,[.t 28]⟩])
 .ret))))
theorem i19:fnInfo Tryz.prog 19 = some (29,[.t 4],ac19):=by kernel_rfl
def ac20:AC :=
 .seq (.reg []
 [⟨some 0,none,.mov,[.c .nilp]⟩])
 (.seq (.reg []
 [⟨some 1,none,.build [.nils,.nils,.int .i64 0,.int .i64 0] [(2,1)],[.c (.int .i64 (-1))]⟩,
 ⟨some 2,none,.box,[.t 1]⟩,
 ⟨some 0,none,.mov,[.t 2]⟩])
 .ret)
theorem i20:fnInfo Tryz.prog 20 = some (3,[.t 0],ac20):=by kernel_rfl
def ac21:AC :=
 .seq (.reg []
 [⟨some 4,none,.mov,[.c (.int .i64 0)]⟩])
 (.seq (.seq (.reg []
 [⟨some 5,none,.mov,[.t 1]⟩,
 ⟨some 6,none,.bin .lss .scal,[.t 5,.c (.int .i64 0)]⟩,
 ⟨some 7,none,.mov,[.t 6]⟩,
 ⟨some 8,some (7,false),.mov,[.t 1]⟩,
 ⟨some 9,some (7,false),.bin .gtr .scal,[.t 8,.c (.int .i64 31)]⟩,
 ⟨some 10,none,.pick,[.t 7,.c (.bool true),.t 9]⟩])
 (.cond (.t 10)
 (.seq (.reg []
 [⟨some 4,none,.mov,[.c (.int .i64 0)]⟩])
 .ret)
 .skip))
 (.seq (.reg []
 [⟨some 11,none,.mov,[.t 0]⟩,
 ⟨some 12,none,.mov,[.t 1]⟩,
 ⟨some 13,none,.bin .sub .scal,[.c (.int .i64 31),.t 12]⟩,
 ⟨some 14,none,.conv .u64,[.t 13]⟩,
 ⟨some 15,none,.bin .shr .scal,[.t 11,.t 14]⟩,
 ⟨some 16,none,.bin .and .scal,[.t 15,.c (.int .u32 1)]⟩,
 ⟨some 17,none,.conv .i64,[.t 16]⟩,
 ⟨some 4,none,.mov,[.t 17]⟩])
 .ret))
theorem i21:fnInfo Tryz.prog 21 = some (18,[.t 4],ac21):=by kernel_rfl
def ac22:AC :=
 .seq (.reg []
 [⟨some 2,none,.mov,[.c .nils]⟩])
 (.seq (.reg []
 [⟨some 3,none,.mov,[.t 0]⟩,
 ⟨some 4,none,.build [.int .u32 0,.int .i64 0] [],[]⟩,
 ⟨some 5,none,.call 34,[.t 3,.t 4]⟩,
 ⟨some 2,none,.mov,[.t 5]⟩])
 .ret)
theorem i22:fnInfo Tryz.prog 22 = some (6,[.t 2],ac22):=by kernel_rfl
def ac23:AC :=
 .seq (.reg []
 [⟨some 4,none,.box,[.t 1]⟩,
 ⟨some 6,none,.mov,[.c (.bool false)]⟩])
 (.seq (.reg [[],[0],[1],[2],[],[3,4],[5],[6],[6],[7,5,0,1,2,3,4,5,6,7],[8,9,0,1,2,3,4,5,6,7,8,9]]
 [⟨some 10,none,.mov,[.t 0]⟩,
 ⟨some 11,none,.nilchk,[.t 10]⟩,
 ⟨some 12,none,.fldA 0,[.t 11]⟩,
 ⟨some 13,none,.load none,[.t 12]⟩,
 ⟨some 14,none,.load (some 2),[.t 4]⟩,
 ⟨some 15,none,.call 31,[.t 13,.t 14]⟩,
 ⟨some 9,none,.mov,[.t 15]⟩,
 ⟨some 16,none,.ext 0,[.t 9]⟩,
 ⟨some 17,none,.ext 1,[.t 9]⟩,
 ⟨some 7,none,.mov,[.t 16]⟩,
 ⟨some 8,none,.mov,[.t 17]⟩])
 (.seq (.reg []
 [⟨some 18,none,.mov,[.t 8]⟩,
 ⟨some 19,none,.mov,[.t 18]⟩,
 ⟨some 20,some (19,true),.mov,[.t 0]⟩,
 ⟨some 21,some (19,true),.nilchk,[.t 20]⟩,
 ⟨some 22,some (19,true),.fldA 1,[.t 21]⟩,
 ⟨some 23,some (19,true),.load none,[.t 22]⟩,
 ⟨some 24,some (19,true),.mov,[.t 7]⟩,
 ⟨some 25,some (19,true),.idxA 3,[.t 23,.t 24]⟩,
 ⟨some 26,some (19,true),.fldA 0,[.t 25]⟩,
 ⟨some 27,some (19,true),.load none,[.t 26]⟩,
 ⟨some 28,some (19,true),.mov,[.t 2]⟩,
 ⟨some 29,some (19,true),.call 35,[.t 27,.t 28]⟩,
 ⟨some 30,none,.pick,[.t 19,.t 29,.c (.bool false)]⟩,
 ⟨some 6,none,.mov,[.t 30]⟩])
 .ret))
theorem i23:fnInfo Tryz.prog 23 = some (31,[.t 6],ac23):=by kernel_rfl
def ac24:AC :=
 .seq (.reg []
 [⟨some 2,none,.mov,[.c .nils]⟩])
 (.seq (.reg []
 [⟨some 3,none,.mov,[.t 0]⟩,
 ⟨some 4,none,.call 26,[.t 3]⟩,
 ⟨some 0,none,.mov,[.t 4]⟩])
 (.seq (.reg []
 [⟨some 5,none,.mov,[.t 0]⟩,
 ⟨some 6,none,.call 36,[.t 5,.f 37]⟩])
 (.seq (.reg []
 [⟨some 7,none,.mov,[.t 0]⟩,
 ⟨some 8,none,.call 41,[.t 7]⟩,
 ⟨some 2,none,.mov,[.t 8]⟩])
 .ret)))
theorem i24:fnInfo Tryz.prog 24 = some (9,[.t 2],ac24):=by kernel_rfl
def ac25:AC :=
 .seq (.reg []
 [⟨some 4,none,.alloc [.int .u32 0,.int .i64 0,.int .i64 0],[]⟩,
 ⟨some 5,none,.mov,[.c (.bool false)]⟩])
 (.seq (.reg []
 [⟨some 7,none,.mov,[.t 0]⟩,
 ⟨some 8,none,.mov,[.t 1]⟩,
 ⟨some 9,none,.build [.int .u32 0,.int .i64 0] [(0,1),(1,1)],[.t 8,.c (.int .i64 32)]⟩,
 ⟨some 10,none,.call 42,[.t 7,.t 9]⟩,
 ⟨some 6,none,.mov,[.t 10]⟩])
 (.seq (.seq (.reg []
 [⟨some 11,none,.mov,[.t 6]⟩,
 ⟨some 12,none,.lenL,[.t 11]⟩,
 ⟨some 13,none,.bin .eql .scal,[.t 12,.c (.int .i64 0)]⟩])
 (.cond (.t 13)
 (.seq (.reg []
 [⟨some 14,none,.build [.int .u32 0,.int .i64 0,.int .i64 0] [],[]⟩,
 ⟨none,none,.store 3,[.t 4,.t 14]⟩,
 ⟨some 5,none,.mov,[.c (.bool false)]⟩])
 .ret)
 .skip))
 (.seq (.reg []
 [⟨some 15,none,.mov,[.t 6]⟩,
 ⟨some 16,none,.mov,[.t 6]⟩,
 ⟨some 17,none,.lenL,[.t 16]⟩,
 ⟨some 18,none,.bin .sub .scal,[.t 17,.c (.int .i64 1)]⟩,
 ⟨some 19,none,.idxA 3,[.t 15,.t 18]⟩,
 ⟨some 20,none,.load (some 3),[.t 19]⟩,
 ⟨none,none,.store 3,[.t 4,.t 20]⟩,
 ⟨some 5,none,.mov,[.c (.bool true)]⟩])
 .ret)))
theorem i25:fnInfo Tryz.prog 25 = some (21,[.c 4 (some 3),.t 5],ac25):=by kernel_rfl
def ac26:AC :=
 .seq (.reg []
 [⟨some 2,none,.mov,[.c .nils]⟩])
 (.seq (.seq (.reg []
 [⟨some 3,none,.mov,[.t 0]⟩,
 ⟨some 4,none,.bin .eql .sl,[.t 3,.c .nils]⟩])
 (.cond (.t 4)
 (.seq (.reg []
 [⟨some 2,none,.mov,[.c .nils]⟩])
 .ret)
 .skip))
 (.seq (.reg []
 [⟨some 5,none,.bslice 2 63,[]⟩,
 ⟨some 6,none,.mov,[.t 0]⟩,
 ⟨some 7,none,.append 2 63 16,[.t 5,.t 6]⟩,
 ⟨some 2,none,.mov,[.t 7]⟩])
 .ret))
theorem i26:fnInfo Tryz.prog 26 = some (8,[.t 2],ac26):=by kernel_rfl
def ac28:AC :=
 .seq (.reg []
 [⟨some 1,none,.box,[.t 0]⟩,
 ⟨some 2,none,.mov,[.c (.bool false)]⟩])
 (.seq (.reg [[],[0],[1],[2,2],[3],[4,3],[3],[6,3],[7,3,3],[5,8,3],[9,3],[3,10],[11,8,0,1,2,3,4,5,6,7,8,9,10,11]]
 [⟨some 3,none,.fldA 1,[.t 1]⟩,
 ⟨some 4,none,.load none,[.t 3]⟩,
 ⟨some 5,none,.call 43,[.t 4]⟩,
 ⟨some 6,none,.mov,[.t 5]⟩,
 ⟨some 7,some (6,true),.fldA 0,[.t 1]⟩,
 ⟨some 8,some (6,true),.load none,[.t 7]⟩,
 ⟨some 9,some (6,true),.fldA 1,[.t 1]⟩,
 ⟨some 10,some (6,true),.load none,[.t 9]⟩,
 ⟨some 11,some (6,true),.call 44,[.t 10]⟩,
 ⟨some 12,some (6,true),.bin .andNot .scal,[.t 8,.t 11]⟩,
 ⟨some 13,some (6,true),.bin .eql .scal,[.t 12,.c (.int .u32 0)]⟩,
 ⟨some 14,none,.pick,[.t 6,.t 13,.c (.bool false)]⟩,
 ⟨some 2,none,.mov,[.t 14]⟩])
 .ret)
theorem i28:fnInfo Tryz.prog 28 = some (15,[.t 2],ac28):=by kernel_rfl
def ac29:AC :=
 .seq (.reg []
 [⟨some 4,none,.box,[.t 1]⟩,
 ⟨some 6,none,.mov,[.c (.int .i64 0)]⟩])
 (.seq (.seq (.reg []
 [⟨some 9,none,.mov,[.t 0]⟩,
 ⟨some 10,none,.bin .eql .ptr,[.t 9,.c .nilp]⟩,
 ⟨some 11,none,.mov,[.t 10]⟩,
 ⟨some 12,some (11,false),.load (some 2),[.t 4]⟩,
 ⟨some 13,some (11,false),.call 28,[.t 12]⟩,
 ⟨some 14,some (11,false),.unNot,[.t 13]⟩,
 ⟨some 15,none,.pick,[.t 11,.c (.bool true),.t 14]⟩])
 (.cond (.t 15)
 (.seq (.reg []
 [⟨some 6,none,.mov,[.c (.int .i64 1)]⟩])
 .ret)
 .skip))
 (.seq (.seq (.reg []
 [⟨some 17,none,.mov,[.t 0]⟩,
 ⟨some 18,none,.load (some 2),[.t 4]⟩,
 ⟨some 19,none,.call 31,[.t 17,.t 18]⟩,
 ⟨some 16,none,.mov,[.t 19]⟩,
 ⟨some 20,none,.ext 0,[.t 16]⟩,
 ⟨some 21,none,.ext 1,[.t 16]⟩,
 ⟨some 7,none,.mov,[.t 20]⟩,
 ⟨some 8,none,.mov,[.t 21]⟩])
 (.seq (.reg []
 [⟨some 22,none,.mov,[.t 8]⟩,
 ⟨some 23,none,.unNot,[.t 22]⟩,
 ⟨some 24,none,.mov,[.t 23]⟩,
 ⟨some 25,some (24,true),.mov,[.t 0]⟩,
 ⟨some 26,some (24,true),.nilchk,[.t 25]⟩,
 ⟨some 27,some (24,true),.fldA 3,[.t 26]⟩,
 ⟨some 28,some (24,true),.load none,[.t 27]⟩,
 ⟨some 29,some (24,true),.bin .geq .scal,[.t 28,.c (.int .i64 5000)]⟩,
 ⟨some 30,none,.pick,[.t 24,.t 29,.c (.bool false)]⟩])
 (.cond (.t 30)
 (.seq (.reg []
 [⟨some 6,none,.mov,[.c (.int .i64 8)]⟩])
 .ret)
 .skip)))
 (.seq (.reg [[],[],[],[2],[3],[4],[],[],[1,5,6,7],[0,0,1,2,3,4,5,6,7,8],[9,0,1,2,3,4,5,6,7,8],[10,8,8,0,1,2,3,4,5,6,7,8]]
 [⟨some 31,none,.mov,[.t 0]⟩,
 ⟨some 32,none,.mov,[.t 0]⟩,
 ⟨some 33,none,.mov,[.t 0]⟩,
 ⟨some 34,none,.nilchk,[.t 33]⟩,
 ⟨some 35,none,.fldA 2,[.t 34]⟩,
 ⟨some 36,none,.load none,[.t 35]⟩,
 ⟨some 37,none,.load (some 2),[.t 4]⟩,
 ⟨some 38,none,.mov,[.t 2]⟩,
 ⟨some 39,none,.call 45,[.t 32,.t 36,.t 37,.t 38]⟩,
 ⟨some 40,none,.nilchk,[.t 31]⟩,
 ⟨some 41,none,.fldA 2,[.t 40]⟩,
 ⟨none,none,.store 1,[.t 41,.t 39]⟩])
 (.seq (.reg []
 [⟨some 6,none,.mov,[.c (.int .i64 0)]⟩])
 .ret))))
theorem i29:fnInfo Tryz.prog 29 = some (42,[.t 6],ac29):=by kernel_rfl
def ac30:AC :=
 .seq (.reg []
 [⟨some 4,none,.mov,[.c (.int .i64 0)]⟩])
 (.seq (.reg []
 [⟨some 8,none,.mov,[.t 1]⟩,
 ⟨some 9,none,.call 46,[.t 8]⟩,
 ⟨some 5,none,.mov,[.t 9]⟩])
 (.seq (.reg []
 [⟨some 11,none,.mov,[.t 0]⟩,
 ⟨some 12,none,.nilchk,[.t 11]⟩,
 ⟨some 13,none,.fldA 2,[.t 12]⟩,
 ⟨some 14,none,.load none,[.t 13]⟩,
 ⟨some 15,none,.mov,[.t 5]⟩,
 ⟨some 16,none,.mq (.look (.int .i64 0) true),[.t 14,.t 15]⟩,
 ⟨some 10,none,.mov,[.t 16]⟩,
 ⟨some 17,none,.ext 0,[.t 10]⟩,
 ⟨some 18,none,.ext 1,[.t 10]⟩,
 ⟨some 6,none,.mov,[.t 17]⟩,
 ⟨some 7,none,.mov,[.t 18]⟩])
 (.seq (.seq (.reg []
 [⟨some 19,none,.mov,[.t 7]⟩,
 ⟨some 20,none,.unNot,[.t 19]⟩])
 (.cond (.t 20)
 (.seq (.reg []
 [⟨some 21,none,.mov,[.t 0]⟩,
 ⟨some 22,none,.nilchk,[.t 21]⟩,
 ⟨some 23,none,.fldA 1,[.t 22]⟩,
 ⟨some 24,none,.load none,[.t 23]⟩,
 ⟨some 25,none,.call 47,[.t 24,.f 48]⟩,
 ⟨some 6,none,.mov,[.t 25]⟩])
 (.seq (.seq (.reg []
 [⟨some 26,none,.mov,[.t 6]⟩,
 ⟨some 27,none,.bin .lss .scal,[.t 26,.c (.int .i64 0)]⟩])
 (.cond (.t 27)
 (.seq (.reg []
 [⟨some 28,none,.mov,[.t 0]⟩,
 ⟨some 29,none,.nilchk,[.t 28]⟩,
 ⟨some 30,none,.fldA 1,[.t 29]⟩,
 ⟨some 31,none,.load none,[.t 30]⟩,
 ⟨some 32,none,.lenL,[.t 31]⟩,
 ⟨some 6,none,.mov,[.t 32]⟩])
 (.reg []
 [⟨some 33,none,.mov,[.t 0]⟩,
 ⟨some 34,none,.mov,[.t 0]⟩,
 ⟨some 35,none,.nilchk,[.t 34]⟩,
 ⟨some 36,none,.fldA 1,[.t 35]⟩,
 ⟨some 37,none,.load none,[.t 36]⟩,
 ⟨some 38,none,.build [.nils,.str (bstr []),.int .i64 0] [],[]⟩,
 ⟨some 39,none,.bslice 3 71,[.t 38]⟩,
 ⟨some 40,none,.append 3 71 48,[.t 37,.t 39]⟩,
 ⟨some 41,none,.nilchk,[.t 33]⟩,
 ⟨some 42,none,.fldA 1,[.t 41]⟩,
 ⟨none,none,.store 1,[.t 42,.t 40]⟩]))
 .skip))
 (.reg [[],[0],[1],[2],[],[],[5],[6],[7],[],[],[],[10,11],[],[3,4,0,1,2,3,4,8,10,11,12],[14,12,0,1,2,3,4,8,10,11,12],[8,9,15,0,1,2,3,4,8,10,11,12,14,15],[16],[8,17,13,16,0,1,2,3,4,5,6,7,8,9,10,11,12,13,14,15,16]]
 [⟨some 43,none,.mov,[.t 0]⟩,
 ⟨some 44,none,.nilchk,[.t 43]⟩,
 ⟨some 45,none,.fldA 1,[.t 44]⟩,
 ⟨some 46,none,.load none,[.t 45]⟩,
 ⟨some 47,none,.mov,[.t 6]⟩,
 ⟨some 48,none,.mov,[.t 0]⟩,
 ⟨some 49,none,.nilchk,[.t 48]⟩,
 ⟨some 50,none,.fldA 2,[.t 49]⟩,
 ⟨some 51,none,.load none,[.t 50]⟩,
 ⟨some 52,none,.mov,[.t 5]⟩,
 ⟨some 53,none,.mov,[.t 1]⟩,
 ⟨some 54,none,.mov,[.t 5]⟩,
 ⟨some 55,none,.build [.nils,.str (bstr []),.int .i64 0] [(0,1),(1,1),(2,1)],[.t 53,.t 54,.c (.int .i64 0)]⟩,
 ⟨some 56,none,.mov,[.t 6]⟩,
 ⟨some 57,none,.idxA 3,[.t 46,.t 47]⟩,
 ⟨none,none,.store 3,[.t 57,.t 55]⟩,
 ⟨some 58,none,.mq (.ent (.int .i64 0)),[.t 51,.t 52]⟩,
 ⟨some 59,none,.ext 1,[.t 58]⟩,
 ⟨none,none,.mq .put,[.t 51,.t 59,.t 56]⟩])))
 .skip))
 (.seq (.reg []
 [⟨some 60,none,.mov,[.t 0]⟩,
 ⟨some 61,none,.nilchk,[.t 60]⟩,
 ⟨some 62,none,.fldA 1,[.t 61]⟩,
 ⟨some 63,none,.load none,[.t 62]⟩,
 ⟨some 64,none,.mov,[.t 6]⟩,
 ⟨some 65,none,.idxA 3,[.t 63,.t 64]⟩,
 ⟨some 66,none,.fldA 2,[.t 65]⟩,
 ⟨some 67,none,.load none,[.t 66]⟩,
 ⟨some 68,none,.bin .add .scal,[.t 67,.c (.int .i64 1)]⟩,
 ⟨some 69,none,.idxA 3,[.t 63,.t 64]⟩,
 ⟨some 70,none,.fldA 2,[.t 69]⟩,
 ⟨none,none,.store 1,[.t 70,.t 68]⟩])
 (.seq (.reg []
 [⟨some 71,none,.mov,[.t 6]⟩,
 ⟨some 4,none,.mov,[.t 71]⟩])
 .ret)))))
theorem i30:fnInfo Tryz.prog 30 = some (72,[.t 4],ac30):=by kernel_rfl
def ac31:AC :=
 .seq (.reg []
 [⟨some 3,none,.box,[.t 1]⟩,
 ⟨some 4,none,.mov,[.c (.int .i64 0)]⟩,
 ⟨some 5,none,.mov,[.c (.bool false)]⟩])
 (.seq (.reg []
 [⟨some 7,none,.mov,[.t 0]⟩,
 ⟨some 8,none,.load (some 2),[.t 3]⟩,
 ⟨some 9,none,.call 42,[.t 7,.t 8]⟩,
 ⟨some 6,none,.mov,[.t 9]⟩])
 (.seq (.seq (.reg [[],[0],[1],[2],[3],[3],[5,3],[6,3],[4,7,3],[8,3],[9,3],[3],[10,11,3],[3,12]]
 [⟨some 10,none,.mov,[.t 6]⟩,
 ⟨some 11,none,.lenL,[.t 10]⟩,
 ⟨some 12,none,.bin .eql .scal,[.t 11,.c (.int .i64 0)]⟩,
 ⟨some 13,none,.mov,[.t 12]⟩,
 ⟨some 14,some (13,false),.mov,[.t 6]⟩,
 ⟨some 15,some (13,false),.mov,[.t 6]⟩,
 ⟨some 16,some (13,false),.lenL,[.t 15]⟩,
 ⟨some 17,some (13,false),.bin .sub .scal,[.t 16,.c (.int .i64 1)]⟩,
 ⟨some 18,some (13,false),.idxA 3,[.t 14,.t 17]⟩,
 ⟨some 19,some (13,false),.fldA 0,[.t 18]⟩,
 ⟨some 20,some (13,false),.load (some 2),[.t 19]⟩,
 ⟨some 21,some (13,false),.load (some 2),[.t 3]⟩,
 ⟨some 22,some (13,false),.bin .neq (.flat [.int .u32,.int .i64]),[.t 20,.t 21]⟩,
 ⟨some 23,none,.pick,[.t 13,.c (.bool true),.t 22]⟩])
 (.cond (.t 23)
 (.seq (.reg []
 [⟨some 4,none,.mov,[.c (.int .i64 0)]⟩,
 ⟨some 5,none,.mov,[.c (.bool false)]⟩])
 .ret)
 .skip))
 (.seq (.reg []
 [⟨some 24,none,.mov,[.t 6]⟩,
 ⟨some 25,none,.mov,[.t 6]⟩,
 ⟨some 26,none,.lenL,[.t 25]⟩,
 ⟨some 27,none,.bin .sub .scal,[.t 26,.c (.int .i64 1)]⟩,
 ⟨some 28,none,.idxA 3,[.t 24,.t 27]⟩,
 ⟨some 29,none,.fldA 2,[.t 28]⟩,
 ⟨some 30,none,.load none,[.t 29]⟩,
 ⟨some 4,none,.mov,[.t 30]⟩,
 ⟨some 5,none,.mov,[.c (.bool true)]⟩])
 .ret)))
theorem i31:fnInfo Tryz.prog 31 = some (31,[.t 4,.t 5],ac31):=by kernel_rfl
def ac32:AC :=
 .seq (.reg []
 [⟨some 3,none,.box,[.t 1]⟩,
 ⟨some 4,none,.mov,[.c (.bool false)]⟩])
 (.seq (.seq (.reg []
 [⟨some 8,none,.mov,[.t 0]⟩,
 ⟨some 9,none,.load (some 2),[.t 3]⟩,
 ⟨some 10,none,.call 31,[.t 8,.t 9]⟩,
 ⟨some 7,none,.mov,[.t 10]⟩,
 ⟨some 11,none,.ext 0,[.t 7]⟩,
 ⟨some 12,none,.ext 1,[.t 7]⟩,
 ⟨some 5,none,.mov,[.t 11]⟩,
 ⟨some 6,none,.mov,[.t 12]⟩])
 (.seq (.reg []
 [⟨some 13,none,.mov,[.t 6]⟩,
 ⟨some 14,none,.unNot,[.t 13]⟩])
 (.cond (.t 14)
 (.seq (.reg []
 [⟨some 4,none,.mov,[.c (.bool false)]⟩])
 .ret)
 .skip)))
 (.seq (.reg []
 [⟨some 15,none,.mov,[.t 0]⟩,
 ⟨some 16,none,.nilchk,[.t 15]⟩,
 ⟨some 17,none,.fldA 3,[.t 16]⟩,
 ⟨some 18,none,.load none,[.t 17]⟩,
 ⟨some 19,none,.bin .sub .scal,[.t 18,.c (.int .i64 1)]⟩,
 ⟨some 20,none,.nilchk,[.t 15]⟩,
 ⟨some 21,none,.fldA 3,[.t 20]⟩,
 ⟨none,none,.store 1,[.t 21,.t 19]⟩])
 (.seq (.reg [[],[],[],[2],[3],[4],[],[1,5,6],[0,0,1,2,3,4,5,6,7],[8,0,1,2,3,4,5,6,7],[9,7,7,0,1,2,3,4,5,6,7]]
 [⟨some 22,none,.mov,[.t 0]⟩,
 ⟨some 23,none,.mov,[.t 0]⟩,
 ⟨some 24,none,.mov,[.t 0]⟩,
 ⟨some 25,none,.nilchk,[.t 24]⟩,
 ⟨some 26,none,.fldA 2,[.t 25]⟩,
 ⟨some 27,none,.load none,[.t 26]⟩,
 ⟨some 28,none,.load (some 2),[.t 3]⟩,
 ⟨some 29,none,.call 49,[.t 23,.t 27,.t 28]⟩,
 ⟨some 30,none,.nilchk,[.t 22]⟩,
 ⟨some 31,none,.fldA 2,[.t 30]⟩,
 ⟨none,none,.store 1,[.t 31,.t 29]⟩])
 (.seq (.reg []
 [⟨some 4,none,.mov,[.c (.bool true)]⟩])
 .ret))))
theorem i32:fnInfo Tryz.prog 32 = some (32,[.t 4],ac32):=by kernel_rfl
def ac33:AC :=
 .seq (.reg []
 [⟨some 5,none,.mov,[.t 0]⟩,
 ⟨some 6,none,.nilchk,[.t 5]⟩,
 ⟨some 7,none,.fldA 1,[.t 6]⟩,
 ⟨some 8,none,.load none,[.t 7]⟩,
 ⟨some 9,none,.mov,[.t 1]⟩,
 ⟨some 10,none,.idxA 3,[.t 8,.t 9]⟩,
 ⟨some 4,none,.mov,[.t 10]⟩])
 (.seq (.reg []
 [⟨some 11,none,.mov,[.t 4]⟩,
 ⟨some 12,none,.nilchk,[.t 11]⟩,
 ⟨some 13,none,.fldA 2,[.t 12]⟩,
 ⟨some 14,none,.load none,[.t 13]⟩,
 ⟨some 15,none,.bin .sub .scal,[.t 14,.c (.int .i64 1)]⟩,
 ⟨some 16,none,.nilchk,[.t 11]⟩,
 ⟨some 17,none,.fldA 2,[.t 16]⟩,
 ⟨none,none,.store 1,[.t 17,.t 15]⟩])
 (.seq (.reg []
 [⟨some 18,none,.mov,[.t 4]⟩,
 ⟨some 19,none,.nilchk,[.t 18]⟩,
 ⟨some 20,none,.fldA 2,[.t 19]⟩,
 ⟨some 21,none,.load none,[.t 20]⟩,
 ⟨some 22,none,.bin .eql .scal,[.t 21,.c (.int .i64 0)]⟩])
 (.cond (.t 22)
 (.seq (.reg [[],[0],[1],[2],[],[4],[5],[6],[3,7]]
 [⟨some 23,none,.mov,[.t 0]⟩,
 ⟨some 24,none,.nilchk,[.t 23]⟩,
 ⟨some 25,none,.fldA 2,[.t 24]⟩,
 ⟨some 26,none,.load none,[.t 25]⟩,
 ⟨some 27,none,.mov,[.t 4]⟩,
 ⟨some 28,none,.nilchk,[.t 27]⟩,
 ⟨some 29,none,.fldA 1,[.t 28]⟩,
 ⟨some 30,none,.load none,[.t 29]⟩,
 ⟨none,none,.mq .del,[.t 26,.t 30]⟩])
 (.reg []
 [⟨some 31,none,.mov,[.t 4]⟩,
 ⟨some 32,none,.build [.nils,.str (bstr []),.int .i64 0] [],[]⟩,
 ⟨some 33,none,.nilchk,[.t 31]⟩,
 ⟨none,none,.store 3,[.t 33,.t 32]⟩]))
 .skip)))
theorem i33:fnInfo Tryz.prog 33 = some (34,[],ac33):=by kernel_rfl
def ac34:AC :=
 .seq (.reg []
 [⟨some 2,none,.box,[.t 0]⟩,
 ⟨some 3,none,.box,[.t 1]⟩,
 ⟨some 4,none,.mov,[.c .nils]⟩])
 (.seq (.seq (.reg []
 [⟨some 7,none,.load none,[.t 2]⟩,
 ⟨some 8,none,.bin .eql .ptr,[.t 7,.c .nilp]⟩,
 ⟨some 9,none,.mov,[.t 8]⟩,
 ⟨some 10,some (9,false),.load (some 2),[.t 3]⟩,
 ⟨some 11,some (9,false),.call 28,[.t 10]⟩,
 ⟨some 12,some (9,false),.unNot,[.t 11]⟩,
 ⟨some 13,none,.pick,[.t 9,.c (.bool true),.t 12]⟩])
 (.cond (.t 13)
 (.seq (.reg []
 [⟨some 4,none,.mov,[.c .nils]⟩])
 .ret)
 .skip))
 (.seq (.reg []
 [⟨some 5,none,.alloc [.nils],[]⟩])
 (.seq (.reg []
 [⟨some 6,none,.alloc [.nilf],[]⟩])
 (.seq (.reg []
 [⟨some 14,none,.mkfn 50 0,[.t 2,.t 3,.t 5,.t 6]⟩,
 ⟨none,none,.store 1,[.t 6,.t 14]⟩])
 (.seq (.reg [[],[],[1],[2],[3],[0,4]]
 [⟨some 15,none,.load none,[.t 6]⟩,
 ⟨some 16,none,.load none,[.t 2]⟩,
 ⟨some 17,none,.nilchk,[.t 16]⟩,
 ⟨some 18,none,.fldA 2,[.t 17]⟩,
 ⟨some 19,none,.load none,[.t 18]⟩,
 ⟨some 20,none,.callv,[.t 15,.t 19]⟩])
 (.seq (.reg []
 [⟨some 21,none,.load none,[.t 5]⟩,
 ⟨some 4,none,.mov,[.t 21]⟩])
 .ret))))))
theorem i34:fnInfo Tryz.prog 34 = some (22,[.t 4],ac34):=by kernel_rfl
def ac35_1:AC :=
 .seq (.reg []
 [⟨some 14,none,.bin .lss .scal,[.t 13,.t 12]⟩])
 (.seq (.cond (.t 14)
 .skip
 (.exit 0))
 (.seq (.block 1 (.seq (.reg []
 [⟨some 15,none,.mov,[.t 13]⟩,
 ⟨some 5,none,.mov,[.t 15]⟩])
 (.seq (.reg [[],[],[0,1],[2],[],[],[4,5],[6],[3,7]]
 [⟨some 16,none,.mov,[.t 0]⟩,
 ⟨some 17,none,.mov,[.t 5]⟩,
 ⟨some 18,none,.idxA 2,[.t 16,.t 17]⟩,
 ⟨some 19,none,.load (some 2),[.t 18]⟩,
 ⟨some 20,none,.mov,[.t 1]⟩,
 ⟨some 21,none,.mov,[.t 5]⟩,
 ⟨some 22,none,.idxA 2,[.t 20,.t 21]⟩,
 ⟨some 23,none,.load (some 2),[.t 22]⟩,
 ⟨some 24,none,.bin .neq (.flat [.int .i64,.int .u32]),[.t 19,.t 23]⟩])
 (.cond (.t 24)
 (.seq (.reg []
 [⟨some 4,none,.mov,[.c (.bool false)]⟩])
 .ret)
 .skip))))
 (.reg []
 [⟨some 25,none,.bin .add .scal,[.t 13,.c (.int .i64 1)]⟩,
 ⟨some 13,none,.mov,[.t 25]⟩])))
def ac35:AC :=
 .seq (.reg []
 [⟨some 4,none,.mov,[.c (.bool false)]⟩])
 (.seq (.seq (.reg []
 [⟨some 6,none,.mov,[.t 0]⟩,
 ⟨some 7,none,.lenL,[.t 6]⟩,
 ⟨some 8,none,.mov,[.t 1]⟩,
 ⟨some 9,none,.lenL,[.t 8]⟩,
 ⟨some 10,none,.bin .neq .scal,[.t 7,.t 9]⟩])
 (.cond (.t 10)
 (.seq (.reg []
 [⟨some 4,none,.mov,[.c (.bool false)]⟩])
 .ret)
 .skip))
 (.seq (.seq (.reg []
 [⟨some 11,none,.mov,[.t 0]⟩,
 ⟨some 12,none,.lenL,[.t 11]⟩,
 ⟨some 13,none,.mov,[.c (.int .i64 0)]⟩])
 (.block 0 (.loop ac35_1)))
 (.seq (.reg []
 [⟨some 4,none,.mov,[.c (.bool true)]⟩])
 .ret)))
theorem i35:fnInfo Tryz.prog 35 = some (26,[.t 4],ac35):=by kernel_rfl
def ac37:AC :=
 .seq (.reg []
 [⟨some 2,none,.box,[.t 0]⟩,
 ⟨some 3,none,.box,[.t 1]⟩,
 ⟨some 4,none,.mov,[.c (.int .i64 0)]⟩])
 (.seq (.reg [[],[0],[],[2],[1,3],[],[5],[],[7],[6,8,4],[4,9],[10,9],[11,11,0,1,2,3,4,5,6,7,8,9,10,11]]
 [⟨some 5,none,.fldA 0,[.t 2]⟩,
 ⟨some 6,none,.load none,[.t 5]⟩,
 ⟨some 7,none,.fldA 0,[.t 3]⟩,
 ⟨some 8,none,.load none,[.t 7]⟩,
 ⟨some 9,none,.call 39,[.t 6,.t 8]⟩,
 ⟨some 10,none,.fldA 1,[.t 2]⟩,
 ⟨some 11,none,.load none,[.t 10]⟩,
 ⟨some 12,none,.fldA 1,[.t 3]⟩,
 ⟨some 13,none,.load none,[.t 12]⟩,
 ⟨some 14,none,.call 40,[.t 11,.t 13]⟩,
 ⟨some 15,none,.bslice 1 3,[.t 9,.t 14]⟩,
 ⟨some 16,none,.call 38,[.t 15]⟩,
 ⟨some 4,none,.mov,[.t 16]⟩])
 .ret)
theorem i37:fnInfo Tryz.prog 37 = some (17,[.t 4],ac37):=by kernel_rfl
def ac38_1:AC :=
 .seq (.reg []
 [⟨some 9,none,.bin .lss .scal,[.t 8,.t 7]⟩])
 (.seq (.cond (.t 9)
 .skip
 (.exit 0))
 (.seq (.block 1 (.seq (.reg []
 [⟨some 10,none,.idxA 1,[.t 6,.t 8]⟩,
 ⟨some 11,none,.load none,[.t 10]⟩,
 ⟨some 5,none,.mov,[.t 11]⟩])
 (.seq (.reg []
 [⟨some 12,none,.mov,[.t 5]⟩,
 ⟨some 13,none,.mov,[.t 3]⟩,
 ⟨some 14,none,.bin .neq .scal,[.t 12,.t 13]⟩])
 (.cond (.t 14)
 (.seq (.reg []
 [⟨some 15,none,.mov,[.t 5]⟩,
 ⟨some 2,none,.mov,[.t 15]⟩])
 .ret)
 .skip))))
 (.reg []
 [⟨some 16,none,.bin .add .scal,[.t 8,.c (.int .i64 1)]⟩,
 ⟨some 8,none,.mov,[.t 16]⟩])))
def ac38:AC :=
 .seq (.reg []
 [⟨some 2,none,.mov,[.c (.int .i64 0)]⟩])
 (.seq (.reg []
 [⟨some 3,none,.mov,[.c (.int .i64 0)]⟩])
 (.seq (.seq (.reg []
 [⟨some 6,none,.mov,[.t 0]⟩,
 ⟨some 7,none,.lenL,[.t 6]⟩,
 ⟨some 8,none,.mov,[.c (.int .i64 0)]⟩])
 (.block 0 (.loop ac38_1)))
 (.seq (.reg []
 [⟨some 17,none,.mov,[.t 3]⟩,
 ⟨some 2,none,.mov,[.t 17]⟩])
 .ret)))
theorem i38:fnInfo Tryz.prog 38 = some (18,[.t 2],ac38):=by kernel_rfl
def ac39:AC :=
 .seq (.reg []
 [⟨some 4,none,.mov,[.c (.int .i64 0)]⟩])
 (.seq (.reg []
 [⟨some 7,none,.mov,[.t 0]⟩,
 ⟨some 8,none,.call 54,[.t 7]⟩,
 ⟨some 5,none,.mov,[.t 8]⟩])
 (.seq (.reg []
 [⟨some 9,none,.mov,[.t 1]⟩,
 ⟨some 10,none,.call 54,[.t 9]⟩,
 ⟨some 6,none,.mov,[.t 10]⟩])
 (.seq (.seq (.reg []
 [⟨some 11,none,.mov,[.t 5]⟩])
 (.cond (.t 11)
 (.seq (.seq (.reg []
 [⟨some 12,none,.mov,[.t 6]⟩])
 (.cond (.t 12)
 (.seq (.reg []
 [⟨some 4,none,.mov,[.c (.int .i64 0)]⟩])
 .ret)
 .skip))
 (.seq (.reg []
 [⟨some 4,none,.mov,[.c (.int .i64 (-1))]⟩])
 .ret))
 .skip))
 (.seq (.seq (.reg []
 [⟨some 13,none,.mov,[.t 6]⟩])
 (.cond (.t 13)
 (.seq (.reg []
 [⟨some 4,none,.mov,[.c (.int .i64 1)]⟩])
 .ret)
 .skip))
 (.seq (.seq (.reg []
 [⟨some 14,none,.mov,[.t 0]⟩,
 ⟨some 15,none,.mov,[.t 1]⟩,
 ⟨some 16,none,.bin .lss .scal,[.t 14,.t 15]⟩])
 (.cond (.t 16)
 (.seq (.reg []
 [⟨some 4,none,.mov,[.c (.int .i64 (-1))]⟩])
 .ret)
 .skip))
 (.seq (.seq (.reg []
 [⟨some 17,none,.mov,[.t 0]⟩,
 ⟨some 18,none,.mov,[.t 1]⟩,
 ⟨some 19,none,.bin .gtr .scal,[.t 17,.t 18]⟩])
 (.cond (.t 19)
 (.seq (.reg []
 [⟨some 4,none,.mov,[.c (.int .i64 1)]⟩])
 .ret)
 .skip))
 (.seq (.reg []
 [⟨some 4,none,.mov,[.c (.int .i64 0)]⟩])
 .ret)))))))
theorem i39:fnInfo Tryz.prog 39 = some (20,[.t 4],ac39):=by kernel_rfl
def ac40:AC :=
 .seq (.reg []
 [⟨some 4,none,.mov,[.c (.int .i64 0)]⟩])
 (.seq (.reg []
 [⟨some 7,none,.mov,[.t 0]⟩,
 ⟨some 8,none,.call 55,[.t 7]⟩,
 ⟨some 5,none,.mov,[.t 8]⟩])
 (.seq (.reg []
 [⟨some 9,none,.mov,[.t 1]⟩,
 ⟨some 10,none,.call 55,[.t 9]⟩,
 ⟨some 6,none,.mov,[.t 10]⟩])
 (.seq (.seq (.reg []
 [⟨some 11,none,.mov,[.t 5]⟩])
 (.cond (.t 11)
 (.seq (.seq (.reg []
 [⟨some 12,none,.mov,[.t 6]⟩])
 (.cond (.t 12)
 (.seq (.reg []
 [⟨some 4,none,.mov,[.c (.int .i64 0)]⟩])
 .ret)
 .skip))
 (.seq (.reg []
 [⟨some 4,none,.mov,[.c (.int .i64 (-1))]⟩])
 .ret))
 .skip))
 (.seq (.seq (.reg []
 [⟨some 13,none,.mov,[.t 6]⟩])
 (.cond (.t 13)
 (.seq (.reg []
 [⟨some 4,none,.mov,[.c (.int .i64 1)]⟩])
 .ret)
 .skip))
 (.seq (.seq (.reg []
 [⟨some 14,none,.mov,[.t 0]⟩,
 ⟨some 15,none,.mov,[.t 1]⟩,
 ⟨some 16,none,.bin .lss .scal,[.t 14,.t 15]⟩])
 (.cond (.t 16)
 (.seq (.reg []
 [⟨some 4,none,.mov,[.c (.int .i64 (-1))]⟩])
 .ret)
 .skip))
 (.seq (.seq (.reg []
 [⟨some 17,none,.mov,[.t 0]⟩,
 ⟨some 18,none,.mov,[.t 1]⟩,
 ⟨some 19,none,.bin .gtr .scal,[.t 17,.t 18]⟩])
 (.cond (.t 19)
 (.seq (.reg []
 [⟨some 4,none,.mov,[.c (.int .i64 1)]⟩])
 .ret)
 .skip))
 (.seq (.reg []
 [⟨some 4,none,.mov,[.c (.int .i64 0)]⟩])
 .ret)))))))
theorem i40:fnInfo Tryz.prog 40 = some (20,[.t 4],ac40):=by kernel_rfl
def ac41_1:AC :=
 .seq (.seq (.reg []
 [⟨some 29,none,.mov,[.t 5]⟩,
 ⟨some 30,none,.mov,[.t 4]⟩,
 ⟨some 31,none,.lenL,[.t 30]⟩,
 ⟨some 32,none,.bin .lss .scal,[.t 29,.t 31]⟩])
 (.cond (.t 32)
 .skip
 (.exit 2)))
 (.seq (.block 3 (.seq (.reg [[],[],[0,1],[2],[],[],[5],[4,6],[7],[3,8]]
 [⟨some 35,none,.mov,[.t 4]⟩,
 ⟨some 36,none,.mov,[.t 5]⟩,
 ⟨some 37,none,.idxA 2,[.t 35,.t 36]⟩,
 ⟨some 38,none,.load (some 2),[.t 37]⟩,
 ⟨some 39,none,.mov,[.t 4]⟩,
 ⟨some 40,none,.mov,[.t 5]⟩,
 ⟨some 41,none,.bin .sub .scal,[.t 40,.c (.int .i64 1)]⟩,
 ⟨some 42,none,.idxA 2,[.t 39,.t 41]⟩,
 ⟨some 43,none,.load (some 2),[.t 42]⟩,
 ⟨some 44,none,.bin .neq (.flat [.int .i64,.int .u32]),[.t 38,.t 43]⟩])
 (.cond (.t 44)
 (.seq (.reg []
 [⟨some 45,none,.mov,[.t 0]⟩,
 ⟨some 46,none,.mov,[.t 3]⟩,
 ⟨some 47,none,.mov,[.t 4]⟩,
 ⟨some 48,none,.mov,[.t 5]⟩,
 ⟨some 49,none,.idxA 2,[.t 47,.t 48]⟩,
 ⟨some 50,none,.load (some 2),[.t 49]⟩,
 ⟨some 51,none,.idxA 2,[.t 45,.t 46]⟩,
 ⟨none,none,.store 2,[.t 51,.t 50]⟩])
 (.reg []
 [⟨some 52,none,.mov,[.t 3]⟩,
 ⟨some 53,none,.bin .add .scal,[.t 52,.c (.int .i64 1)]⟩,
 ⟨some 3,none,.mov,[.t 53]⟩]))
 .skip)))
 (.reg []
 [⟨some 33,none,.mov,[.t 5]⟩,
 ⟨some 34,none,.bin .add .scal,[.t 33,.c (.int .i64 1)]⟩,
 ⟨some 5,none,.mov,[.t 34]⟩]))
def ac41_2:AC :=
 .seq (.seq (.reg []
 [⟨some 10,none,.mov,[.t 3]⟩,
 ⟨some 11,none,.mov,[.t 0]⟩,
 ⟨some 12,none,.lenL,[.t 11]⟩,
 ⟨some 13,none,.bin .lss .scal,[.t 10,.t 12]⟩])
 (.cond (.t 13)
 .skip
 (.exit 0)))
 (.seq (.block 1 (.seq (.reg [[],[],[0,1],[2],[],[],[5],[4,6],[7],[3,8]]
 [⟨some 16,none,.mov,[.t 0]⟩,
 ⟨some 17,none,.mov,[.t 3]⟩,
 ⟨some 18,none,.idxA 2,[.t 16,.t 17]⟩,
 ⟨some 19,none,.load (some 2),[.t 18]⟩,
 ⟨some 20,none,.mov,[.t 0]⟩,
 ⟨some 21,none,.mov,[.t 3]⟩,
 ⟨some 22,none,.bin .sub .scal,[.t 21,.c (.int .i64 1)]⟩,
 ⟨some 23,none,.idxA 2,[.t 20,.t 22]⟩,
 ⟨some 24,none,.load (some 2),[.t 23]⟩,
 ⟨some 25,none,.bin .eql (.flat [.int .i64,.int .u32]),[.t 19,.t 24]⟩])
 (.cond (.t 25)
 (.seq (.reg []
 [⟨some 26,none,.mov,[.t 0]⟩,
 ⟨some 27,none,.mov,[.t 3]⟩,
 ⟨some 28,none,.slice 2 true false,[.t 26,.t 27]⟩,
 ⟨some 4,none,.mov,[.t 28]⟩])
 (.seq (.seq (.reg []
 [⟨some 5,none,.mov,[.c (.int .i64 1)]⟩])
 (.block 2 (.loop ac41_1)))
 (.seq (.reg []
 [⟨some 54,none,.mov,[.t 0]⟩,
 ⟨some 55,none,.mov,[.t 3]⟩,
 ⟨some 56,none,.slice 2 true false,[.t 54,.t 55]⟩,
 ⟨none,none,.clear 2 [.int .i64 0,.int .u32 0],[.t 56]⟩])
 (.seq (.reg []
 [⟨some 57,none,.mov,[.t 0]⟩,
 ⟨some 58,none,.mov,[.t 3]⟩,
 ⟨some 59,none,.slice 2 false true,[.t 57,.t 58]⟩,
 ⟨some 2,none,.mov,[.t 59]⟩])
 .ret))))
 .skip)))
 (.reg []
 [⟨some 14,none,.mov,[.t 3]⟩,
 ⟨some 15,none,.bin .add .scal,[.t 14,.c (.int .i64 1)]⟩,
 ⟨some 3,none,.mov,[.t 15]⟩]))
def ac41:AC :=
 .seq (.reg []
 [⟨some 2,none,.mov,[.c .nils]⟩])
 (.seq (.seq (.reg []
 [⟨some 6,none,.mov,[.t 0]⟩,
 ⟨some 7,none,.lenL,[.t 6]⟩,
 ⟨some 8,none,.bin .lss .scal,[.t 7,.c (.int .i64 2)]⟩])
 (.cond (.t 8)
 (.seq (.reg []
 [⟨some 9,none,.mov,[.t 0]⟩,
 ⟨some 2,none,.mov,[.t 9]⟩])
 .ret)
 .skip))
 (.seq (.seq (.reg []
 [⟨some 3,none,.mov,[.c (.int .i64 1)]⟩])
 (.block 0 (.loop ac41_2)))
 (.seq (.reg []
 [⟨some 60,none,.mov,[.t 0]⟩,
 ⟨some 2,none,.mov,[.t 60]⟩])
 .ret)))
theorem i41:fnInfo Tryz.prog 41 = some (61,[.t 2],ac41):=by kernel_rfl
def ac42:AC :=
 .seq (.reg []
 [⟨some 3,none,.box,[.t 1]⟩,
 ⟨some 4,none,.mov,[.c .nils]⟩])
 (.seq (.reg []
 [⟨some 5,none,.alloc [.nils],[]⟩])
 (.seq (.reg []
 [⟨some 6,none,.mov,[.t 0]⟩,
 ⟨some 7,none,.load (some 2),[.t 3]⟩,
 ⟨some 8,none,.mkfn 57 0,[.t 5]⟩,
 ⟨some 9,none,.call 56,[.t 6,.t 7,.t 8]⟩])
 (.seq (.reg []
 [⟨some 10,none,.load none,[.t 5]⟩,
 ⟨some 4,none,.mov,[.t 10]⟩])
 .ret)))
theorem i42:fnInfo Tryz.prog 42 = some (11,[.t 4],ac42):=by kernel_rfl
def ac43:AC :=
 .seq (.reg []
 [⟨some 2,none,.mov,[.c (.bool false)]⟩])
 (.seq (.reg []
 [⟨some 3,none,.mov,[.t 0]⟩,
 ⟨some 4,none,.bin .geq .scal,[.t 3,.c (.int .i64 0)]⟩,
 ⟨some 5,none,.mov,[.t 4]⟩,
 ⟨some 6,some (5,true),.mov,[.t 0]⟩,
 ⟨some 7,some (5,true),.bin .leq .scal,[.t 6,.c (.int .i64 32)]⟩,
 ⟨some 8,none,.pick,[.t 5,.t 7,.c (.bool false)]⟩,
 ⟨some 2,none,.mov,[.t 8]⟩])
 .ret)
theorem i43:fnInfo Tryz.prog 43 = some (9,[.t 2],ac43):=by kernel_rfl
def ac44:AC :=
 .seq (.reg []
 [⟨some 2,none,.mov,[.c (.int .u32 0)]⟩])
 (.seq (.reg []
 [⟨some 3,none,.mov,[.t 0]⟩,
 ⟨some 4,none,.minmax true,[.t 3,.c (.int .i64 0)]⟩,
 ⟨some 5,none,.minmax false,[.t 4,.c (.int .i64 32)]⟩,
 ⟨some 0,none,.mov,[.t 5]⟩])
 (.seq (.reg []
 [⟨some 6,none,.mov,[.t 0]⟩,
 ⟨some 7,none,.bin .sub .scal,[.c (.int .i64 32),.t 6]⟩,
 ⟨some 8,none,.bin .shl .scal,[.c (.int .u64 4294967295),.t 7]⟩,
 ⟨some 9,none,.conv .u32,[.t 8]⟩,
 ⟨some 2,none,.mov,[.t 9]⟩])
 .ret))
theorem i44:fnInfo Tryz.prog 44 = some (10,[.t 2],ac44):=by kernel_rfl
def ac45:AC :=
 .seq (.reg []
 [⟨some 6,none,.box,[.t 2]⟩,
 ⟨some 8,none,.mov,[.c (.int .i64 0)]⟩])
 (.seq (.seq (.reg []
 [⟨some 14,none,.mov,[.t 1]⟩,
 ⟨some 15,none,.bin .eql .scal,[.t 14,.c (.int .i64 (-1))]⟩])
 (.cond (.t 15)
 (.seq (.reg []
 [⟨some 16,none,.mov,[.t 0]⟩,
 ⟨some 17,none,.nilchk,[.t 16]⟩,
 ⟨some 18,none,.fldA 3,[.t 17]⟩,
 ⟨some 19,none,.load none,[.t 18]⟩,
 ⟨some 20,none,.bin .add .scal,[.t 19,.c (.int .i64 1)]⟩,
 ⟨some 21,none,.nilchk,[.t 16]⟩,
 ⟨some 22,none,.fldA 3,[.t 21]⟩,
 ⟨none,none,.store 1,[.t 22,.t 20]⟩])
 (.seq (.reg []
 [⟨some 23,none,.mov,[.t 0]⟩,
 ⟨some 24,none,.load (some 2),[.t 6]⟩,
 ⟨some 25,none,.mov,[.t 3]⟩,
 ⟨some 26,none,.call 59,[.t 24,.t 25]⟩,
 ⟨some 27,none,.call 58,[.t 23,.t 26]⟩,
 ⟨some 8,none,.mov,[.t 27]⟩])
 .ret))
 .skip))
 (.seq (.reg []
 [⟨some 28,none,.mov,[.t 0]⟩,
 ⟨some 29,none,.nilchk,[.t 28]⟩,
 ⟨some 30,none,.fldA 0,[.t 29]⟩,
 ⟨some 31,none,.load none,[.t 30]⟩,
 ⟨some 32,none,.mov,[.t 1]⟩,
 ⟨some 33,none,.idxA 6,[.t 31,.t 32]⟩,
 ⟨some 34,none,.fldA 0,[.t 33]⟩,
 ⟨some 35,none,.load (some 2),[.t 34]⟩,
 ⟨some 9,none,.alloc [.int .u32 0,.int .i64 0],[]⟩,
 ⟨none,none,.store 2,[.t 9,.t 35]⟩])
 (.seq (.block 0 (.seq (.reg []
 [⟨some 37,none,.load (some 2),[.t 9]⟩,
 ⟨some 38,none,.load (some 2),[.t 6]⟩,
 ⟨some 39,none,.bin .eql (.flat [.int .u32,.int .i64]),[.t 37,.t 38]⟩,
 ⟨some 36,none,.mov,[.t 39]⟩])
 (.cond (.t 36)
 (.seq (.seq (.reg []
 [⟨some 40,none,.mov,[.t 0]⟩,
 ⟨some 41,none,.nilchk,[.t 40]⟩,
 ⟨some 42,none,.fldA 0,[.t 41]⟩,
 ⟨some 43,none,.load none,[.t 42]⟩,
 ⟨some 44,none,.mov,[.t 1]⟩,
 ⟨some 45,none,.idxA 6,[.t 43,.t 44]⟩,
 ⟨some 46,none,.fldA 3,[.t 45]⟩,
 ⟨some 47,none,.load none,[.t 46]⟩,
 ⟨some 48,none,.unNot,[.t 47]⟩])
 (.cond (.t 48)
 (.reg []
 [⟨some 49,none,.mov,[.t 0]⟩,
 ⟨some 50,none,.nilchk,[.t 49]⟩,
 ⟨some 51,none,.fldA 3,[.t 50]⟩,
 ⟨some 52,none,.load none,[.t 51]⟩,
 ⟨some 53,none,.bin .add .scal,[.t 52,.c (.int .i64 1)]⟩,
 ⟨some 54,none,.nilchk,[.t 49]⟩,
 ⟨some 55,none,.fldA 3,[.t 54]⟩,
 ⟨none,none,.store 1,[.t 55,.t 53]⟩])
 .skip))
 (.seq (.reg [[],[0],[1],[2],[],[],[5],[6],[7],[],[],[3,4,0,1,2,3,4,8,10],[11,0,1,2,3,4,8,10],[12,10,0,1,2,3,4,8,10],[8,9,0,1,2,3,4,5,6,7,8,9,10,11,12,13],[14,0,1,2,3,4,5,6,7,8,9,10,11,12,13],[15,13,0,1,2,3,4,5,6,7,8,9,10,11,12,13]]
 [⟨some 56,none,.mov,[.t 0]⟩,
 ⟨some 57,none,.nilchk,[.t 56]⟩,
 ⟨some 58,none,.fldA 0,[.t 57]⟩,
 ⟨some 59,none,.load none,[.t 58]⟩,
 ⟨some 60,none,.mov,[.t 1]⟩,
 ⟨some 61,none,.mov,[.t 0]⟩,
 ⟨some 62,none,.nilchk,[.t 61]⟩,
 ⟨some 63,none,.fldA 0,[.t 62]⟩,
 ⟨some 64,none,.load none,[.t 63]⟩,
 ⟨some 65,none,.mov,[.t 1]⟩,
 ⟨some 66,none,.mov,[.t 3]⟩,
 ⟨some 67,none,.idxA 6,[.t 59,.t 60]⟩,
 ⟨some 68,none,.fldA 2,[.t 67]⟩,
 ⟨none,none,.store 1,[.t 68,.t 66]⟩,
 ⟨some 69,none,.idxA 6,[.t 64,.t 65]⟩,
 ⟨some 70,none,.fldA 3,[.t 69]⟩,
 ⟨none,none,.store 1,[.t 70,.c (.bool true)]⟩])
 (.seq (.reg []
 [⟨some 71,none,.mov,[.t 1]⟩,
 ⟨some 8,none,.mov,[.t 71]⟩])
 .ret)))
 (.seq (.reg []
 [⟨some 73,none,.load (some 2),[.t 9]⟩,
 ⟨some 74,none,.load (some 2),[.t 6]⟩,
 ⟨some 75,none,.call 51,[.t 73,.t 74]⟩,
 ⟨some 72,none,.mov,[.t 75]⟩])
 (.cond (.t 72)
 (.seq (.reg []
 [⟨some 76,none,.load (some 2),[.t 9]⟩,
 ⟨some 77,none,.load (some 2),[.t 6]⟩,
 ⟨some 78,none,.call 60,[.t 76,.t 77]⟩,
 ⟨some 10,none,.mov,[.t 78]⟩])
 (.seq (.reg [[],[],[1],[2],[3],[],[],[4,5],[7],[8,6],[9],[],[],[0,10,11,12],[13,13,0,1,2,3,4,5,6,7,8,9,10,11,12,13]]
 [⟨some 79,none,.mov,[.t 0]⟩,
 ⟨some 80,none,.mov,[.t 0]⟩,
 ⟨some 81,none,.nilchk,[.t 80]⟩,
 ⟨some 82,none,.fldA 0,[.t 81]⟩,
 ⟨some 83,none,.load none,[.t 82]⟩,
 ⟨some 84,none,.mov,[.t 1]⟩,
 ⟨some 85,none,.mov,[.t 10]⟩,
 ⟨some 86,none,.idxA 6,[.t 83,.t 84]⟩,
 ⟨some 87,none,.fldA 4,[.t 86]⟩,
 ⟨some 88,none,.idxAA 2 1,[.t 87,.t 85]⟩,
 ⟨some 89,none,.load none,[.t 88]⟩,
 ⟨some 90,none,.load (some 2),[.t 6]⟩,
 ⟨some 91,none,.mov,[.t 3]⟩,
 ⟨some 92,none,.call 45,[.t 79,.t 89,.t 90,.t 91]⟩,
 ⟨some 11,none,.mov,[.t 92]⟩])
 (.seq (.reg []
 [⟨some 93,none,.mov,[.t 0]⟩,
 ⟨some 94,none,.nilchk,[.t 93]⟩,
 ⟨some 95,none,.fldA 0,[.t 94]⟩,
 ⟨some 96,none,.load none,[.t 95]⟩,
 ⟨some 97,none,.mov,[.t 1]⟩,
 ⟨some 98,none,.mov,[.t 10]⟩,
 ⟨some 99,none,.mov,[.t 11]⟩,
 ⟨some 100,none,.idxA 6,[.t 96,.t 97]⟩,
 ⟨some 101,none,.fldA 4,[.t 100]⟩,
 ⟨some 102,none,.idxAA 2 1,[.t 101,.t 98]⟩,
 ⟨none,none,.store 1,[.t 102,.t 99]⟩])
 (.seq (.reg []
 [⟨some 103,none,.mov,[.t 1]⟩,
 ⟨some 8,none,.mov,[.t 103]⟩])
 .ret))))
 .skip)))))
 (.seq (.reg []
 [⟨some 104,none,.mov,[.t 0]⟩,
 ⟨some 105,none,.nilchk,[.t 104]⟩,
 ⟨some 106,none,.fldA 3,[.t 105]⟩,
 ⟨some 107,none,.load none,[.t 106]⟩,
 ⟨some 108,none,.bin .add .scal,[.t 107,.c (.int .i64 1)]⟩,
 ⟨some 109,none,.nilchk,[.t 104]⟩,
 ⟨some 110,none,.fldA 3,[.t 109]⟩,
 ⟨none,none,.store 1,[.t 110,.t 108]⟩])
 (.seq (.reg []
 [⟨some 111,none,.load (some 2),[.t 6]⟩,
 ⟨some 112,none,.mov,[.t 3]⟩,
 ⟨some 113,none,.call 59,[.t 111,.t 112]⟩,
 ⟨some 12,none,.alloc [.int .u32 0,.int .i64 0,.int .i64 0,.bool false,.int .i64 0,.int .i64 0],[]⟩,
 ⟨none,none,.store 6,[.t 12,.t 113]⟩])
 (.seq (.seq (.reg []
 [⟨some 114,none,.load (some 2),[.t 6]⟩,
 ⟨some 115,none,.load (some 2),[.t 9]⟩,
 ⟨some 116,none,.call 51,[.t 114,.t 115]⟩])
 (.cond (.t 116)
 (.seq (.reg []
 [⟨some 117,none,.load (some 2),[.t 6]⟩,
 ⟨some 118,none,.load (some 2),[.t 9]⟩,
 ⟨some 119,none,.call 60,[.t 117,.t 118]⟩,
 ⟨some 120,none,.mov,[.t 1]⟩,
 ⟨some 121,none,.fldA 4,[.t 12]⟩,
 ⟨some 122,none,.idxAA 2 1,[.t 121,.t 119]⟩,
 ⟨none,none,.store 1,[.t 122,.t 120]⟩])
 (.seq (.reg []
 [⟨some 123,none,.mov,[.t 0]⟩,
 ⟨some 124,none,.load (some 6),[.t 12]⟩,
 ⟨some 125,none,.call 58,[.t 123,.t 124]⟩,
 ⟨some 8,none,.mov,[.t 125]⟩])
 .ret))
 .skip))
 (.seq (.reg []
 [⟨some 126,none,.load (some 2),[.t 6]⟩,
 ⟨some 127,none,.load (some 2),[.t 9]⟩,
 ⟨some 128,none,.call 61,[.t 126,.t 127]⟩,
 ⟨some 129,none,.build [.int .i64 0,.int .i64 0] [(0,1),(1,1)],[.c (.int .i64 (-1)),.c (.int .i64 (-1))]⟩,
 ⟨some 130,none,.build [.int .u32 0,.int .i64 0,.int .i64 0,.bool false,.int .i64 0,.int .i64 0] [(0,2),(4,2)],[.t 128,.t 129]⟩,
 ⟨some 13,none,.alloc [.int .u32 0,.int .i64 0,.int .i64 0,.bool false,.int .i64 0,.int .i64 0],[]⟩,
 ⟨none,none,.store 6,[.t 13,.t 130]⟩])
 (.seq (.reg []
 [⟨some 131,none,.fldA 0,[.t 13]⟩,
 ⟨some 132,none,.load (some 2),[.t 131]⟩,
 ⟨some 133,none,.load (some 2),[.t 9]⟩,
 ⟨some 134,none,.call 60,[.t 132,.t 133]⟩,
 ⟨some 135,none,.mov,[.t 1]⟩,
 ⟨some 136,none,.fldA 4,[.t 13]⟩,
 ⟨some 137,none,.idxAA 2 1,[.t 136,.t 134]⟩,
 ⟨none,none,.store 1,[.t 137,.t 135]⟩])
 (.seq (.reg [[],[0],[],[1,2],[],[],[4,5,3],[],[7,3,0,1,2,3,4,5,6],[8,6,6,0,1,2,3,4,5,6]]
 [⟨some 138,none,.fldA 0,[.t 13]⟩,
 ⟨some 139,none,.load (some 2),[.t 138]⟩,
 ⟨some 140,none,.load (some 2),[.t 6]⟩,
 ⟨some 141,none,.call 60,[.t 139,.t 140]⟩,
 ⟨some 142,none,.mov,[.t 0]⟩,
 ⟨some 143,none,.load (some 6),[.t 12]⟩,
 ⟨some 144,none,.call 58,[.t 142,.t 143]⟩,
 ⟨some 145,none,.fldA 4,[.t 13]⟩,
 ⟨some 146,none,.idxAA 2 1,[.t 145,.t 141]⟩,
 ⟨none,none,.store 1,[.t 146,.t 144]⟩])
 (.seq (.reg []
 [⟨some 147,none,.mov,[.t 0]⟩,
 ⟨some 148,none,.load (some 6),[.t 13]⟩,
 ⟨some 149,none,.call 58,[.t 147,.t 148]⟩,
 ⟨some 8,none,.mov,[.t 149]⟩])
 .ret))))))))))
theorem i45:fnInfo Tryz.prog 45 = some (150,[.t 8],ac45):=by kernel_rfl
def ac46_1:AC :=
 .seq (.reg []
 [⟨some 9,none,.bin .lss .scal,[.t 8,.t 7]⟩])
 (.seq (.cond (.t 9)
 .skip
 (.exit 0))
 (.seq (.block 1 (.seq (.reg []
 [⟨some 10,none,.idxA 2,[.t 6,.t 8]⟩,
 ⟨some 11,none,.load (some 2),[.t 10]⟩,
 ⟨some 5,none,.alloc [.int .i64 0,.int .u32 0],[]⟩,
 ⟨none,none,.store 2,[.t 5,.t 11]⟩])
 (.reg [[],[],[1],[2],[3],[],[5],[6],[7,3],[4,8],[9],[0,10,8],[11,11,0,1,2,3,4,5,6,7,8,9,10,11]]
 [⟨some 12,none,.mov,[.t 3]⟩,
 ⟨some 13,none,.fldA 0,[.t 5]⟩,
 ⟨some 14,none,.load none,[.t 13]⟩,
 ⟨some 15,none,.call 62,[.t 14]⟩,
 ⟨some 16,none,.bin .add .scal,[.t 15,.c (.str (bstr [32]))]⟩,
 ⟨some 17,none,.fldA 1,[.t 5]⟩,
 ⟨some 18,none,.load none,[.t 17]⟩,
 ⟨some 19,none,.conv .u64,[.t 18]⟩,
 ⟨some 20,none,.call 63,[.t 19,.c (.int .i64 10)]⟩,
 ⟨some 21,none,.bin .add .scal,[.t 16,.t 20]⟩,
 ⟨some 22,none,.bslice 1 9,[.t 21]⟩,
 ⟨some 23,none,.append 1 9 16,[.t 12,.t 22]⟩,
 ⟨some 3,none,.mov,[.t 23]⟩])))
 (.reg []
 [⟨some 24,none,.bin .add .scal,[.t 8,.c (.int .i64 1)]⟩,
 ⟨some 8,none,.mov,[.t 24]⟩])))
def ac46:AC :=
 .seq (.reg []
 [⟨some 2,none,.mov,[.c (.str (bstr []))]⟩])
 (.seq (.reg []
 [⟨some 3,none,.mov,[.c .nils]⟩])
 (.seq (.seq (.reg []
 [⟨some 6,none,.mov,[.t 0]⟩,
 ⟨some 7,none,.lenL,[.t 6]⟩,
 ⟨some 8,none,.mov,[.c (.int .i64 0)]⟩])
 (.block 0 (.loop ac46_1)))
 (.seq (.reg []
 [⟨some 25,none,.mov,[.t 3]⟩,
 ⟨some 26,none,.call 64,[.t 25,.c (.str (bstr [44]))]⟩,
 ⟨some 2,none,.mov,[.t 26]⟩])
 .ret)))
theorem i46:fnInfo Tryz.prog 46 = some (27,[.t 2],ac46):=by kernel_rfl
def ac47_1:AC :=
 .seq (.reg []
 [⟨some 9,none,.bin .lss .scal,[.t 8,.t 7]⟩])
 (.seq (.cond (.t 9)
 .skip
 (.exit 0))
 (.seq (.block 1 (.seq (.reg []
 [⟨some 10,none,.mov,[.t 8]⟩,
 ⟨some 5,none,.mov,[.t 10]⟩])
 (.seq (.reg []
 [⟨some 11,none,.mov,[.t 1]⟩,
 ⟨some 12,none,.mov,[.t 0]⟩,
 ⟨some 13,none,.mov,[.t 5]⟩,
 ⟨some 14,none,.idxA 3,[.t 12,.t 13]⟩,
 ⟨some 15,none,.load (some 3),[.t 14]⟩,
 ⟨some 16,none,.callv,[.t 11,.t 15]⟩])
 (.cond (.t 16)
 (.seq (.reg []
 [⟨some 17,none,.mov,[.t 5]⟩,
 ⟨some 4,none,.mov,[.t 17]⟩])
 .ret)
 .skip))))
 (.reg []
 [⟨some 18,none,.bin .add .scal,[.t 8,.c (.int .i64 1)]⟩,
 ⟨some 8,none,.mov,[.t 18]⟩])))
def ac47:AC :=
 .seq (.reg []
 [⟨some 4,none,.mov,[.c (.int .i64 0)]⟩])
 (.seq (.seq (.reg []
 [⟨some 6,none,.mov,[.t 0]⟩,
 ⟨some 7,none,.lenL,[.t 6]⟩,
 ⟨some 8,none,.mov,[.c (.int .i64 0)]⟩])
 (.block 0 (.loop ac47_1)))
 (.seq (.reg []
 [⟨some 4,none,.mov,[.c (.int .i64 (-1))]⟩])
 .ret))
theorem i47:fnInfo Tryz.prog 47 = some (19,[.t 4],ac47):=by kernel_rfl
def ac48:AC :=
 .seq (.reg []
 [⟨some 1,none,.box,[.t 0]⟩,
 ⟨some 2,none,.mov,[.c (.bool false)]⟩])
 (.seq (.reg []
 [⟨some 3,none,.fldA 2,[.t 1]⟩,
 ⟨some 4,none,.load none,[.t 3]⟩,
 ⟨some 5,none,.bin .eql .scal,[.t 4,.c (.int .i64 0)]⟩,
 ⟨some 2,none,.mov,[.t 5]⟩])
 .ret)
theorem i48:fnInfo Tryz.prog 48 = some (6,[.t 2],ac48):=by kernel_rfl
def ac49:AC :=
 .seq (.reg []
 [⟨some 5,none,.box,[.t 2]⟩,
 ⟨some 6,none,.mov,[.c (.int .i64 0)]⟩])
 (.seq (.seq (.reg [[],[0],[1],[2],[],[3,4],[5],[6],[],[7,8]]
 [⟨some 9,none,.mov,[.t 0]⟩,
 ⟨some 10,none,.nilchk,[.t 9]⟩,
 ⟨some 11,none,.fldA 0,[.t 10]⟩,
 ⟨some 12,none,.load none,[.t 11]⟩,
 ⟨some 13,none,.mov,[.t 1]⟩,
 ⟨some 14,none,.idxA 6,[.t 12,.t 13]⟩,
 ⟨some 15,none,.fldA 0,[.t 14]⟩,
 ⟨some 16,none,.load (some 2),[.t 15]⟩,
 ⟨some 17,none,.load (some 2),[.t 5]⟩,
 ⟨some 18,none,.bin .eql (.flat [.int .u32,.int .i64]),[.t 16,.t 17]⟩])
 (.cond (.t 18)
 (.seq (.reg [[],[0],[1],[2],[],[],[5],[6],[7],[],[3,4,0,1,2,3,4,8],[10,0,1,2,3,4,8],[11,0,1,2,3,4,8],[8,9,0,1,2,3,4,5,6,7,8,9,10,11,12],[13,0,1,2,3,4,5,6,7,8,9,10,11,12],[14,12,0,1,2,3,4,5,6,7,8,9,10,11,12]]
 [⟨some 19,none,.mov,[.t 0]⟩,
 ⟨some 20,none,.nilchk,[.t 19]⟩,
 ⟨some 21,none,.fldA 0,[.t 20]⟩,
 ⟨some 22,none,.load none,[.t 21]⟩,
 ⟨some 23,none,.mov,[.t 1]⟩,
 ⟨some 24,none,.mov,[.t 0]⟩,
 ⟨some 25,none,.nilchk,[.t 24]⟩,
 ⟨some 26,none,.fldA 0,[.t 25]⟩,
 ⟨some 27,none,.load none,[.t 26]⟩,
 ⟨some 28,none,.mov,[.t 1]⟩,
 ⟨some 29,none,.idxA 6,[.t 22,.t 23]⟩,
 ⟨some 30,none,.fldA 3,[.t 29]⟩,
 ⟨none,none,.store 1,[.t 30,.c (.bool false)]⟩,
 ⟨some 31,none,.idxA 6,[.t 27,.t 28]⟩,
 ⟨some 32,none,.fldA 2,[.t 31]⟩,
 ⟨none,none,.store 1,[.t 32,.c (.int .i64 0)]⟩])
 (.seq (.reg []
 [⟨some 33,none,.mov,[.t 0]⟩,
 ⟨some 34,none,.mov,[.t 1]⟩,
 ⟨some 35,none,.call 65,[.t 33,.t 34]⟩,
 ⟨some 6,none,.mov,[.t 35]⟩])
 .ret))
 .skip))
 (.seq (.reg [[],[0],[1],[2],[],[3,4],[5],[6],[],[7,8],[9,9,0,1,2,3,4,5,6,7,8,9]]
 [⟨some 36,none,.mov,[.t 0]⟩,
 ⟨some 37,none,.nilchk,[.t 36]⟩,
 ⟨some 38,none,.fldA 0,[.t 37]⟩,
 ⟨some 39,none,.load none,[.t 38]⟩,
 ⟨some 40,none,.mov,[.t 1]⟩,
 ⟨some 41,none,.idxA 6,[.t 39,.t 40]⟩,
 ⟨some 42,none,.fldA 0,[.t 41]⟩,
 ⟨some 43,none,.load (some 2),[.t 42]⟩,
 ⟨some 44,none,.load (some 2),[.t 5]⟩,
 ⟨some 45,none,.call 60,[.t 43,.t 44]⟩,
 ⟨some 7,none,.mov,[.t 45]⟩])
 (.seq (.reg [[],[],[1],[2],[3],[],[],[4,5],[7],[8,6],[9],[],[0,10,11],[12,12,0,1,2,3,4,5,6,7,8,9,10,11,12]]
 [⟨some 46,none,.mov,[.t 0]⟩,
 ⟨some 47,none,.mov,[.t 0]⟩,
 ⟨some 48,none,.nilchk,[.t 47]⟩,
 ⟨some 49,none,.fldA 0,[.t 48]⟩,
 ⟨some 50,none,.load none,[.t 49]⟩,
 ⟨some 51,none,.mov,[.t 1]⟩,
 ⟨some 52,none,.mov,[.t 7]⟩,
 ⟨some 53,none,.idxA 6,[.t 50,.t 51]⟩,
 ⟨some 54,none,.fldA 4,[.t 53]⟩,
 ⟨some 55,none,.idxAA 2 1,[.t 54,.t 52]⟩,
 ⟨some 56,none,.load none,[.t 55]⟩,
 ⟨some 57,none,.load (some 2),[.t 5]⟩,
 ⟨some 58,none,.call 49,[.t 46,.t 56,.t 57]⟩,
 ⟨some 8,none,.mov,[.t 58]⟩])
 (.seq (.reg []
 [⟨some 59,none,.mov,[.t 0]⟩,
 ⟨some 60,none,.nilchk,[.t 59]⟩,
 ⟨some 61,none,.fldA 0,[.t 60]⟩,
 ⟨some 62,none,.load none,[.t 61]⟩,
 ⟨some 63,none,.mov,[.t 1]⟩,
 ⟨some 64,none,.mov,[.t 7]⟩,
 ⟨some 65,none,.mov,[.t 8]⟩,
 ⟨some 66,none,.idxA 6,[.t 62,.t 63]⟩,
 ⟨some 67,none,.fldA 4,[.t 66]⟩,
 ⟨some 68,none,.idxAA 2 1,[.t 67,.t 64]⟩,
 ⟨none,none,.store 1,[.t 68,.t 65]⟩])
 (.seq (.reg []
 [⟨some 69,none,.mov,[.t 0]⟩,
 ⟨some 70,none,.mov,[.t 1]⟩,
 ⟨some 71,none,.call 65,[.t 69,.t 70]⟩,
 ⟨some 6,none,.mov,[.t 71]⟩])
 .ret)))))
theorem i49:fnInfo Tryz.prog 49 = some (72,[.t 6],ac49):=by kernel_rfl
def ac50:AC :=
 .seq (.seq (.reg []
 [⟨some 7,none,.mov,[.t 0]⟩,
 ⟨some 8,none,.bin .eql .scal,[.t 7,.c (.int .i64 (-1))]⟩])
 (.cond (.t 8)
 .ret
 .skip))
 (.seq (.reg []
 [⟨some 9,none,.load none,[.t 1]⟩,
 ⟨some 10,none,.nilchk,[.t 9]⟩,
 ⟨some 11,none,.fldA 0,[.t 10]⟩,
 ⟨some 12,none,.load none,[.t 11]⟩,
 ⟨some 13,none,.mov,[.t 0]⟩,
 ⟨some 14,none,.idxA 6,[.t 12,.t 13]⟩,
 ⟨some 15,none,.load (some 6),[.t 14]⟩,
 ⟨some 6,none,.alloc [.int .u32 0,.int .i64 0,.int .i64 0,.bool false,.int .i64 0,.int .i64 0],[]⟩,
 ⟨none,none,.store 6,[.t 6,.t 15]⟩])
 (.seq (.seq (.reg []
 [⟨some 16,none,.fldA 3,[.t 6]⟩,
 ⟨some 17,none,.load none,[.t 16]⟩,
 ⟨some 18,none,.mov,[.t 17]⟩,
 ⟨some 19,some (18,true),.load (some 2),[.t 2]⟩,
 ⟨some 20,some (18,true),.fldA 0,[.t 6]⟩,
 ⟨some 21,some (18,true),.load (some 2),[.t 20]⟩,
 ⟨some 22,some (18,true),.call 51,[.t 19,.t 21]⟩,
 ⟨some 23,none,.pick,[.t 18,.t 22,.c (.bool false)]⟩])
 (.cond (.t 23)
 (.reg []
 [⟨some 24,none,.load none,[.t 3]⟩,
 ⟨some 25,none,.fldA 0,[.t 6]⟩,
 ⟨some 26,none,.load (some 2),[.t 25]⟩,
 ⟨some 27,none,.fldA 2,[.t 6]⟩,
 ⟨some 28,none,.load none,[.t 27]⟩,
 ⟨some 29,none,.build [.int .u32 0,.int .i64 0,.int .i64 0] [(0,2),(2,1)],[.t 26,.t 28]⟩,
 ⟨some 30,none,.bslice 3 54,[.t 29]⟩,
 ⟨some 31,none,.append 3 54 24,[.t 24,.t 30]⟩,
 ⟨none,none,.store 1,[.t 3,.t 31]⟩])
 .skip))
 (.seq (.reg []
 [⟨some 32,none,.load (some 2),[.t 2]⟩,
 ⟨some 33,none,.fldA 0,[.t 6]⟩,
 ⟨some 34,none,.load (some 2),[.t 33]⟩,
 ⟨some 35,none,.call 51,[.t 32,.t 34]⟩,
 ⟨some 36,none,.mov,[.t 35]⟩,
 ⟨some 37,some (36,false),.fldA 0,[.t 6]⟩,
 ⟨some 38,some (36,false),.load (some 2),[.t 37]⟩,
 ⟨some 39,some (36,false),.load (some 2),[.t 2]⟩,
 ⟨some 40,some (36,false),.call 51,[.t 38,.t 39]⟩,
 ⟨some 41,none,.pick,[.t 36,.c (.bool true),.t 40]⟩])
 (.cond (.t 41)
 (.seq (.reg []
 [⟨some 42,none,.load none,[.t 4]⟩,
 ⟨some 43,none,.fldA 4,[.t 6]⟩,
 ⟨some 44,none,.idxAA 2 1,[.t 43,.c (.int .i64 0)]⟩,
 ⟨some 45,none,.load none,[.t 44]⟩,
 ⟨some 46,none,.callv,[.t 42,.t 45]⟩])
 (.reg []
 [⟨some 47,none,.load none,[.t 4]⟩,
 ⟨some 48,none,.fldA 4,[.t 6]⟩,
 ⟨some 49,none,.idxAA 2 1,[.t 48,.c (.int .i64 1)]⟩,
 ⟨some 50,none,.load none,[.t 49]⟩,
 ⟨some 51,none,.callv,[.t 47,.t 50]⟩]))
 .skip))))
theorem i50:fnInfo Tryz.prog 50 = some (52,[],ac50):=by kernel_rfl
def ac51:AC :=
 .seq (.reg []
 [⟨some 2,none,.box,[.t 0]⟩,
 ⟨some 3,none,.box,[.t 1]⟩,
 ⟨some 4,none,.mov,[.c (.bool false)]⟩])
 (.seq (.reg []
 [⟨some 5,none,.load (some 2),[.t 3]⟩,
 ⟨some 6,none,.call 28,[.t 5]⟩,
 ⟨some 7,none,.mov,[.t 6]⟩,
 ⟨some 8,some (7,true),.fldA 1,[.t 2]⟩,
 ⟨some 9,some (7,true),.load none,[.t 8]⟩,
 ⟨some 10,some (7,true),.fldA 1,[.t 3]⟩,
 ⟨some 11,some (7,true),.load none,[.t 10]⟩,
 ⟨some 12,some (7,true),.bin .leq .scal,[.t 9,.t 11]⟩,
 ⟨some 13,none,.pick,[.t 7,.t 12,.c (.bool false)]⟩,
 ⟨some 14,none,.mov,[.t 13]⟩,
 ⟨some 15,some (14,true),.load (some 2),[.t 2]⟩,
 ⟨some 16,some (14,true),.fldA 0,[.t 3]⟩,
 ⟨some 17,some (14,true),.load none,[.t 16]⟩,
 ⟨some 18,some (14,true),.call 66,[.t 15,.t 17]⟩,
 ⟨some 19,none,.pick,[.t 14,.t 18,.c (.bool false)]⟩,
 ⟨some 4,none,.mov,[.t 19]⟩])
 .ret)
theorem i51:fnInfo Tryz.prog 51 = some (20,[.t 4],ac51):=by kernel_rfl
def ac54:AC :=
 .seq (.reg []
 [⟨some 2,none,.mov,[.c (.bool false)]⟩])
 (.seq (.reg []
 [⟨some 3,none,.mov,[.t 0]⟩,
 ⟨some 4,none,.mov,[.t 0]⟩,
 ⟨some 5,none,.bin .neq .scal,[.t 3,.t 4]⟩,
 ⟨some 2,none,.mov,[.t 5]⟩])
 .ret)
theorem i54:fnInfo Tryz.prog 54 = some (6,[.t 2],ac54):=by kernel_rfl
def ac55:AC :=
 .seq (.reg []
 [⟨some 2,none,.mov,[.c (.bool false)]⟩])
 (.seq (.reg []
 [⟨some 3,none,.mov,[.t 0]⟩,
 ⟨some 4,none,.mov,[.t 0]⟩,
 ⟨some 5,none,.bin .neq .scal,[.t 3,.t 4]⟩,
 ⟨some 2,none,.mov,[.t 5]⟩])
 .ret)
theorem i55:fnInfo Tryz.prog 55 = some (6,[.t 2],ac55):=by kernel_rfl
def ac56_1:AC :=
 .seq (.seq (.reg [[],[0],[1],[2],[3,2],[4,2],[5,2],[2],[6,7,2],[8,2],[9,2],[2],[10,11,2,2],[2,12]]
 [⟨some 14,none,.mov,[.t 6]⟩,
 ⟨some 15,none,.bin .neq .scal,[.t 14,.c (.int .i64 (-1))]⟩,
 ⟨some 16,none,.mov,[.t 15]⟩,
 ⟨some 17,some (16,true),.mov,[.t 0]⟩,
 ⟨some 18,some (16,true),.nilchk,[.t 17]⟩,
 ⟨some 19,some (16,true),.fldA 0,[.t 18]⟩,
 ⟨some 20,some (16,true),.load none,[.t 19]⟩,
 ⟨some 21,some (16,true),.mov,[.t 6]⟩,
 ⟨some 22,some (16,true),.idxA 6,[.t 20,.t 21]⟩,
 ⟨some 23,some (16,true),.fldA 0,[.t 22]⟩,
 ⟨some 24,some (16,true),.load (some 2),[.t 23]⟩,
 ⟨some 25,some (16,true),.load (some 2),[.t 4]⟩,
 ⟨some 26,some (16,true),.call 51,[.t 24,.t 25]⟩,
 ⟨some 27,none,.pick,[.t 16,.t 26,.c (.bool false)]⟩])
 (.cond (.t 27)
 .skip
 (.exit 0)))
 (.block 1 (.seq (.reg []
 [⟨some 28,none,.mov,[.t 0]⟩,
 ⟨some 29,none,.nilchk,[.t 28]⟩,
 ⟨some 30,none,.fldA 0,[.t 29]⟩,
 ⟨some 31,none,.load none,[.t 30]⟩,
 ⟨some 32,none,.mov,[.t 6]⟩,
 ⟨some 33,none,.idxA 6,[.t 31,.t 32]⟩,
 ⟨some 34,none,.load (some 6),[.t 33]⟩,
 ⟨some 7,none,.alloc [.int .u32 0,.int .i64 0,.int .i64 0,.bool false,.int .i64 0,.int .i64 0],[]⟩,
 ⟨none,none,.store 6,[.t 7,.t 34]⟩])
 (.seq (.reg []
 [⟨some 35,none,.mov,[.t 2]⟩,
 ⟨some 36,none,.load (some 6),[.t 7]⟩,
 ⟨some 37,none,.callv,[.t 35,.t 36]⟩])
 (.seq (.seq (.reg []
 [⟨some 38,none,.fldA 0,[.t 7]⟩,
 ⟨some 39,none,.fldA 1,[.t 38]⟩,
 ⟨some 40,none,.load none,[.t 39]⟩,
 ⟨some 41,none,.fldA 1,[.t 4]⟩,
 ⟨some 42,none,.load none,[.t 41]⟩,
 ⟨some 43,none,.bin .eql .scal,[.t 40,.t 42]⟩])
 (.cond (.t 43)
 .ret
 .skip))
 (.reg []
 [⟨some 44,none,.fldA 0,[.t 7]⟩,
 ⟨some 45,none,.load (some 2),[.t 44]⟩,
 ⟨some 46,none,.load (some 2),[.t 4]⟩,
 ⟨some 47,none,.call 60,[.t 45,.t 46]⟩,
 ⟨some 48,none,.fldA 4,[.t 7]⟩,
 ⟨some 49,none,.idxAA 2 1,[.t 48,.t 47]⟩,
 ⟨some 50,none,.load none,[.t 49]⟩,
 ⟨some 6,none,.mov,[.t 50]⟩])))))
def ac56:AC :=
 .seq (.reg []
 [⟨some 4,none,.box,[.t 1]⟩])
 (.seq (.seq (.reg []
 [⟨some 8,none,.mov,[.t 0]⟩,
 ⟨some 9,none,.bin .eql .ptr,[.t 8,.c .nilp]⟩])
 (.cond (.t 9)
 .ret
 .skip))
 (.seq (.reg []
 [⟨some 10,none,.mov,[.t 0]⟩,
 ⟨some 11,none,.nilchk,[.t 10]⟩,
 ⟨some 12,none,.fldA 2,[.t 11]⟩,
 ⟨some 13,none,.load none,[.t 12]⟩,
 ⟨some 6,none,.mov,[.t 13]⟩])
 (.block 0 (.loop ac56_1))))
theorem i56:fnInfo Tryz.prog 56 = some (51,[],ac56):=by kernel_rfl
def ac57:AC :=
 .seq (.reg []
 [⟨some 2,none,.box,[.t 0]⟩])
 (.seq (.reg []
 [⟨some 3,none,.fldA 3,[.t 2]⟩,
 ⟨some 4,none,.load none,[.t 3]⟩])
 (.cond (.t 4)
 (.reg []
 [⟨some 5,none,.load none,[.t 1]⟩,
 ⟨some 6,none,.fldA 0,[.t 2]⟩,
 ⟨some 7,none,.load (some 2),[.t 6]⟩,
 ⟨some 8,none,.fldA 2,[.t 2]⟩,
 ⟨some 9,none,.load none,[.t 8]⟩,
 ⟨some 10,none,.build [.int .u32 0,.int .i64 0,.int .i64 0] [(0,2),(2,1)],[.t 7,.t 9]⟩,
 ⟨some 11,none,.bslice 3 54,[.t 10]⟩,
 ⟨some 12,none,.append 3 54 24,[.t 5,.t 11]⟩,
 ⟨none,none,.store 1,[.t 1,.t 12]⟩])
 .skip))
theorem i57:fnInfo Tryz.prog 57 = some (13,[],ac57):=by kernel_rfl
def ac58:AC :=
 .seq (.reg []
 [⟨some 3,none,.box,[.t 1]⟩,
 ⟨some 4,none,.mov,[.c (.int .i64 0)]⟩])
 (.seq (.seq (.reg []
 [⟨some 7,none,.mov,[.t 0]⟩,
 ⟨some 8,none,.nilchk,[.t 7]⟩,
 ⟨some 9,none,.fldA 1,[.t 8]⟩,
 ⟨some 10,none,.load none,[.t 9]⟩,
 ⟨some 11,none,.lenL,[.t 10]⟩,
 ⟨some 5,none,.mov,[.t 11]⟩])
 (.seq (.reg []
 [⟨some 12,none,.mov,[.t 5]⟩,
 ⟨some 13,none,.bin .gtr .scal,[.t 12,.c (.int .i64 0)]⟩])
 (.cond (.t 13)
 (.seq (.reg []
 [⟨some 14,none,.mov,[.t 0]⟩,
 ⟨some 15,none,.nilchk,[.t 14]⟩,
 ⟨some 16,none,.fldA 1,[.t 15]⟩,
 ⟨some 17,none,.load none,[.t 16]⟩,
 ⟨some 18,none,.mov,[.t 5]⟩,
 ⟨some 19,none,.bin .sub .scal,[.t 18,.c (.int .i64 1)]⟩,
 ⟨some 20,none,.idxA 1,[.t 17,.t 19]⟩,
 ⟨some 21,none,.load none,[.t 20]⟩,
 ⟨some 6,none,.mov,[.t 21]⟩])
 (.seq (.reg [[],[],[1],[2],[3],[],[],[6],[7],[8],[],[10],[9,11],[],[0,0,4,6,7,8,9,10,11,12],[14,0,4,6,7,8,9,10,11,12],[15,12,0,4,6,7,8,9,10,11,12],[4,5,0,1,2,3,4,5,6,7,8,9,10,11,12,13,14,15,16],[17,13,16,0,1,2,3,4,5,6,7,8,9,10,11,12,13,14,15,16]]
 [⟨some 22,none,.mov,[.t 0]⟩,
 ⟨some 23,none,.mov,[.t 0]⟩,
 ⟨some 24,none,.nilchk,[.t 23]⟩,
 ⟨some 25,none,.fldA 0,[.t 24]⟩,
 ⟨some 26,none,.load none,[.t 25]⟩,
 ⟨some 27,none,.mov,[.t 6]⟩,
 ⟨some 28,none,.mov,[.t 0]⟩,
 ⟨some 29,none,.nilchk,[.t 28]⟩,
 ⟨some 30,none,.fldA 1,[.t 29]⟩,
 ⟨some 31,none,.load none,[.t 30]⟩,
 ⟨some 32,none,.mov,[.t 5]⟩,
 ⟨some 33,none,.bin .sub .scal,[.t 32,.c (.int .i64 1)]⟩,
 ⟨some 34,none,.slice 1 false true,[.t 31,.t 33]⟩,
 ⟨some 35,none,.load (some 6),[.t 3]⟩,
 ⟨some 36,none,.nilchk,[.t 22]⟩,
 ⟨some 37,none,.fldA 1,[.t 36]⟩,
 ⟨none,none,.store 1,[.t 37,.t 34]⟩,
 ⟨some 38,none,.idxA 6,[.t 26,.t 27]⟩,
 ⟨none,none,.store 6,[.t 38,.t 35]⟩])
 (.seq (.reg []
 [⟨some 39,none,.mov,[.t 6]⟩,
 ⟨some 4,none,.mov,[.t 39]⟩])
 .ret)))
 .skip)))
 (.seq (.reg [[],[],[1],[2],[3],[],[5],[4,6],[0,0,1,2,3,4,5,6,7],[8,0,1,2,3,4,5,6,7],[9,7,7,0,1,2,3,4,5,6,7]]
 [⟨some 40,none,.mov,[.t 0]⟩,
 ⟨some 41,none,.mov,[.t 0]⟩,
 ⟨some 42,none,.nilchk,[.t 41]⟩,
 ⟨some 43,none,.fldA 0,[.t 42]⟩,
 ⟨some 44,none,.load none,[.t 43]⟩,
 ⟨some 45,none,.load (some 6),[.t 3]⟩,
 ⟨some 46,none,.bslice 6 101,[.t 45]⟩,
 ⟨some 47,none,.append 6 101 48,[.t 44,.t 46]⟩,
 ⟨some 48,none,.nilchk,[.t 40]⟩,
 ⟨some 49,none,.fldA 0,[.t 48]⟩,
 ⟨none,none,.store 1,[.t 49,.t 47]⟩])
 (.seq (.reg []
 [⟨some 50,none,.mov,[.t 0]⟩,
 ⟨some 51,none,.nilchk,[.t 50]⟩,
 ⟨some 52,none,.fldA 0,[.t 51]⟩,
 ⟨some 53,none,.load none,[.t 52]⟩,
 ⟨some 54,none,.lenL,[.t 53]⟩,
 ⟨some 55,none,.bin .sub .scal,[.t 54,.c (.int .i64 1)]⟩,
 ⟨some 4,none,.mov,[.t 55]⟩])
 .ret)))
theorem i58:fnInfo Tryz.prog 58 = some (56,[.t 4],ac58):=by kernel_rfl
def ac59:AC :=
 .seq (.reg []
 [⟨some 2,none,.box,[.t 0]⟩,
 ⟨some 4,none,.alloc [.int .u32 0,.int .i64 0,.int .i64 0,.bool false,.int .i64 0,.int .i64 0],[]⟩])
 (.seq (.reg []
 [⟨some 5,none,.load (some 2),[.t 2]⟩,
 ⟨some 6,none,.mov,[.t 1]⟩,
 ⟨some 7,none,.build [.int .i64 0,.int .i64 0] [(0,1),(1,1)],[.c (.int .i64 (-1)),.c (.int .i64 (-1))]⟩,
 ⟨some 8,none,.build [.int .u32 0,.int .i64 0,.int .i64 0,.bool false,.int .i64 0,.int .i64 0] [(0,2),(2,1),(3,1),(4,2)],[.t 5,.t 6,.c (.bool true),.t 7]⟩,
 ⟨none,none,.store 6,[.t 4,.t 8]⟩])
 .ret)
theorem i59:fnInfo Tryz.prog 59 = some (9,[.c 4 (some 6)],ac59):=by kernel_rfl
def ac60:AC :=
 .seq (.reg []
 [⟨some 2,none,.box,[.t 0]⟩,
 ⟨some 3,none,.box,[.t 1]⟩,
 ⟨some 4,none,.mov,[.c (.int .i64 0)]⟩])
 (.seq (.reg []
 [⟨some 5,none,.fldA 0,[.t 3]⟩,
 ⟨some 6,none,.load none,[.t 5]⟩,
 ⟨some 7,none,.fldA 1,[.t 2]⟩,
 ⟨some 8,none,.load none,[.t 7]⟩,
 ⟨some 9,none,.call 77,[.t 6,.t 8]⟩,
 ⟨some 4,none,.mov,[.t 9]⟩])
 .ret)
theorem i60:fnInfo Tryz.prog 60 = some (10,[.t 4],ac60):=by kernel_rfl
def ac61:AC :=
 .seq (.reg []
 [⟨some 2,none,.box,[.t 0]⟩,
 ⟨some 3,none,.box,[.t 1]⟩,
 ⟨some 4,none,.alloc [.int .u32 0,.int .i64 0],[]⟩])
 (.seq (.seq (.reg []
 [⟨some 6,none,.load (some 2),[.t 2]⟩,
 ⟨some 7,none,.call 28,[.t 6]⟩,
 ⟨some 8,none,.unNot,[.t 7]⟩,
 ⟨some 9,none,.mov,[.t 8]⟩,
 ⟨some 10,some (9,false),.load (some 2),[.t 3]⟩,
 ⟨some 11,some (9,false),.call 28,[.t 10]⟩,
 ⟨some 12,some (9,false),.unNot,[.t 11]⟩,
 ⟨some 13,none,.pick,[.t 9,.c (.bool true),.t 12]⟩])
 (.cond (.t 13)
 (.seq (.reg []
 [⟨some 14,none,.build [.int .u32 0,.int .i64 0] [],[]⟩,
 ⟨none,none,.store 2,[.t 4,.t 14]⟩])
 .ret)
 .skip))
 (.seq (.reg [[],[0],[],[2],[],[4],[],[6],[5,7],[8],[1,3,9],[10,9,0,1,2,3,4,5,6,7,8,9,10]]
 [⟨some 15,none,.fldA 1,[.t 2]⟩,
 ⟨some 16,none,.load none,[.t 15]⟩,
 ⟨some 17,none,.fldA 1,[.t 3]⟩,
 ⟨some 18,none,.load none,[.t 17]⟩,
 ⟨some 19,none,.fldA 0,[.t 2]⟩,
 ⟨some 20,none,.load none,[.t 19]⟩,
 ⟨some 21,none,.fldA 0,[.t 3]⟩,
 ⟨some 22,none,.load none,[.t 21]⟩,
 ⟨some 23,none,.bin .xor .scal,[.t 20,.t 22]⟩,
 ⟨some 24,none,.call 78,[.t 23]⟩,
 ⟨some 25,none,.minmax false,[.t 16,.t 18,.t 24]⟩,
 ⟨some 5,none,.mov,[.t 25]⟩])
 (.seq (.reg [[],[0],[],[2],[1,3],[],[4,5],[6,3,0,1,2,3,4,5,6]]
 [⟨some 26,none,.fldA 0,[.t 2]⟩,
 ⟨some 27,none,.load none,[.t 26]⟩,
 ⟨some 28,none,.mov,[.t 5]⟩,
 ⟨some 29,none,.call 44,[.t 28]⟩,
 ⟨some 30,none,.bin .and .scal,[.t 27,.t 29]⟩,
 ⟨some 31,none,.mov,[.t 5]⟩,
 ⟨some 32,none,.build [.int .u32 0,.int .i64 0] [(0,1),(1,1)],[.t 30,.t 31]⟩,
 ⟨none,none,.store 2,[.t 4,.t 32]⟩])
 .ret)))
theorem i61:fnInfo Tryz.prog 61 = some (33,[.c 4 (some 2)],ac61):=by kernel_rfl
def ac65:AC :=
 .seq (.reg []
 [⟨some 4,none,.mov,[.c (.int .i64 0)]⟩])
 (.seq (.reg []
 [⟨some 6,none,.mov,[.t 0]⟩,
 ⟨some 7,none,.nilchk,[.t 6]⟩,
 ⟨some 8,none,.fldA 0,[.t 7]⟩,
 ⟨some 9,none,.load none,[.t 8]⟩,
 ⟨some 10,none,.mov,[.t 1]⟩,
 ⟨some 11,none,.idxA 6,[.t 9,.t 10]⟩,
 ⟨some 12,none,.load (some 6),[.t 11]⟩,
 ⟨some 5,none,.alloc [.int .u32 0,.int .i64 0,.int .i64 0,.bool false,.int .i64 0,.int .i64 0],[]⟩,
 ⟨none,none,.store 6,[.t 5,.t 12]⟩])
 (.seq (.seq (.reg []
 [⟨some 13,none,.fldA 3,[.t 5]⟩,
 ⟨some 14,none,.load none,[.t 13]⟩,
 ⟨some 15,none,.mov,[.t 14]⟩,
 ⟨some 16,some (15,false),.fldA 4,[.t 5]⟩,
 ⟨some 17,some (15,false),.idxAA 2 1,[.t 16,.c (.int .i64 0)]⟩,
 ⟨some 18,some (15,false),.load none,[.t 17]⟩,
 ⟨some 19,some (15,false),.bin .neq .scal,[.t 18,.c (.int .i64 (-1))]⟩,
 ⟨some 20,some (15,false),.mov,[.t 19]⟩,
 ⟨some 21,some (20,true),.fldA 4,[.t 5]⟩,
 ⟨some 22,some (20,true),.idxAA 2 1,[.t 21,.c (.int .i64 1)]⟩,
 ⟨some 23,some (20,true),.load none,[.t 22]⟩,
 ⟨some 24,some (20,true),.bin .neq .scal,[.t 23,.c (.int .i64 (-1))]⟩,
 ⟨some 25,some (15,false),.pick,[.t 20,.t 24,.c (.bool false)]⟩,
 ⟨some 26,none,.pick,[.t 15,.c (.bool true),.t 25]⟩])
 (.cond (.t 26)
 (.seq (.reg []
 [⟨some 27,none,.mov,[.t 1]⟩,
 ⟨some 4,none,.mov,[.t 27]⟩])
 .ret)
 .skip))
 (.seq (.reg []
 [⟨some 28,none,.mov,[.t 0]⟩,
 ⟨some 29,none,.mov,[.t 0]⟩,
 ⟨some 30,none,.nilchk,[.t 29]⟩,
 ⟨some 31,none,.fldA 1,[.t 30]⟩,
 ⟨some 32,none,.load none,[.t 31]⟩,
 ⟨some 33,none,.mov,[.t 1]⟩,
 ⟨some 34,none,.bslice 1 3,[.t 33]⟩,
 ⟨some 35,none,.append 1 3 8,[.t 32,.t 34]⟩,
 ⟨some 36,none,.nilchk,[.t 28]⟩,
 ⟨some 37,none,.fldA 1,[.t 36]⟩,
 ⟨none,none,.store 1,[.t 37,.t 35]⟩])
 (.seq (.reg []
 [⟨some 38,none,.fldA 4,[.t 5]⟩,
 ⟨some 39,none,.idxAA 2 1,[.t 38,.c (.int .i64 0)]⟩,
 ⟨some 40,none,.load none,[.t 39]⟩,
 ⟨some 41,none,.fldA 4,[.t 5]⟩,
 ⟨some 42,none,.idxAA 2 1,[.t 41,.c (.int .i64 1)]⟩,
 ⟨some 43,none,.load none,[.t 42]⟩,
 ⟨some 44,none,.minmax true,[.t 40,.t 43]⟩,
 ⟨some 4,none,.mov,[.t 44]⟩])
 .ret))))
theorem i65:fnInfo Tryz.prog 65 = some (45,[.t 4],ac65):=by kernel_rfl
def ac66:AC :=
 .seq (.reg []
 [⟨some 2,none,.box,[.t 0]⟩,
 ⟨some 4,none,.mov,[.c (.bool false)]⟩])
 (.seq (.reg [[],[0],[1,1],[2],[2],[4,2],[5,2,2],[3,6,2],[2],[8,2],[7,9,2],[2,10],[11,6,0,1,2,3,4,5,6,7,8,9,10,11]]
 [⟨some 5,none,.load (some 2),[.t 2]⟩,
 ⟨some 6,none,.call 28,[.t 5]⟩,
 ⟨some 7,none,.mov,[.t 6]⟩,
 ⟨some 8,some (7,true),.mov,[.t 1]⟩,
 ⟨some 9,some (7,true),.fldA 1,[.t 2]⟩,
 ⟨some 10,some (7,true),.load none,[.t 9]⟩,
 ⟨some 11,some (7,true),.call 44,[.t 10]⟩,
 ⟨some 12,some (7,true),.bin .and .scal,[.t 8,.t 11]⟩,
 ⟨some 13,some (7,true),.fldA 0,[.t 2]⟩,
 ⟨some 14,some (7,true),.load none,[.t 13]⟩,
 ⟨some 15,some (7,true),.bin .eql .scal,[.t 12,.t 14]⟩,
 ⟨some 16,none,.pick,[.t 7,.t 15,.c (.bool false)]⟩,
 ⟨some 4,none,.mov,[.t 16]⟩])
 .ret)
theorem i66:fnInfo Tryz.prog 66 = some (17,[.t 4],ac66):=by kernel_rfl
def ac75:AC :=
 .seq (.reg []
 [⟨some 2,none,.mov,[.c (.int .i64 0)]⟩])
 (.seq (.seq (.reg []
 [⟨some 3,none,.mov,[.t 0]⟩,
 ⟨some 4,none,.bin .geq .scal,[.t 3,.c (.int .u32 65536)]⟩])
 (.cond (.t 4)
 (.seq (.reg []
 [⟨some 5,none,.mov,[.t 0]⟩,
 ⟨some 6,none,.bin .shr .scal,[.t 5,.c (.int .u64 16)]⟩,
 ⟨some 0,none,.mov,[.t 6]⟩])
 (.reg []
 [⟨some 2,none,.mov,[.c (.int .i64 16)]⟩]))
 .skip))
 (.seq (.seq (.reg []
 [⟨some 7,none,.mov,[.t 0]⟩,
 ⟨some 8,none,.bin .geq .scal,[.t 7,.c (.int .u32 256)]⟩])
 (.cond (.t 8)
 (.seq (.reg []
 [⟨some 9,none,.mov,[.t 0]⟩,
 ⟨some 10,none,.bin .shr .scal,[.t 9,.c (.int .u64 8)]⟩,
 ⟨some 0,none,.mov,[.t 10]⟩])
 (.reg []
 [⟨some 11,none,.mov,[.t 2]⟩,
 ⟨some 12,none,.bin .add .scal,[.t 11,.c (.int .i64 8)]⟩,
 ⟨some 2,none,.mov,[.t 12]⟩]))
 .skip))
 (.seq (.reg []
 [⟨some 13,none,.mov,[.t 2]⟩,
 ⟨some 14,none,.mov,[.t 0]⟩,
 ⟨some 15,none,.conv .u8,[.t 14]⟩,
 ⟨some 16,none,.idxS,[.c (.str (bstr [0,1,2,2,3,3,3,3,4,4,4,4,4,4,4,4,5,5,5,5,5,5,5,5,5,5,5,5,5,5,5,5,6,6,6,6,6,6,6,6,6,6,6,6,6,6,6,6,6,6,6,6,6,6,6,6,6,6,6,6,6,6,6,6,7,7,7,7,7,7,7,7,7,7,7,7,7,7,7,7,7,7,7,7,7,7,7,7,7,7,7,7,7,7,7,7,7,7,7,7,7,7,7,7,7,7,7,7,7,7,7,7,7,7,7,7,7,7,7,7,7,7,7,7,7,7,7,7,8,8,8,8,8,8,8,8,8,8,8,8,8,8,8,8,8,8,8,8,8,8,8,8,8,8,8,8,8,8,8,8,8,8,8,8,8,8,8,8,8,8,8,8,8,8,8,8,8,8,8,8,8,8,8,8,8,8,8,8,8,8,8,8,8,8,8,8,8,8,8,8,8,8,8,8,8,8,8,8,8,8,8,8,8,8,8,8,8,8,8,8,8,8,8,8,8,8,8,8,8,8,8,8,8,8,8,8,8,8,8,8,8,8,8,8,8,8,8,8,8,8,8,8,8,8,8,8])),.t 15]⟩,
 ⟨some 17,none,.conv .i64,[.t 16]⟩,
 ⟨some 18,none,.bin .add .scal,[.t 13,.t 17]⟩,
 ⟨some 2,none,.mov,[.t 18]⟩])
 .ret)))
theorem i75:fnInfo Tryz.prog 75 = some (19,[.t 2],ac75):=by kernel_rfl
def ac77:AC :=
 .seq (.reg []
 [⟨some 4,none,.mov,[.c (.int .i64 0)]⟩])
 (.seq (.seq (.reg []
 [⟨some 5,none,.mov,[.t 1]⟩,
 ⟨some 6,none,.bin .lss .scal,[.t 5,.c (.int .i64 0)]⟩,
 ⟨some 7,none,.mov,[.t 6]⟩,
 ⟨some 8,some (7,false),.mov,[.t 1]⟩,
 ⟨some 9,some (7,false),.bin .geq .scal,[.t 8,.c (.int .i64 32)]⟩,
 ⟨some 10,none,.pick,[.t 7,.c (.bool true),.t 9]⟩])
 (.cond (.t 10)
 (.seq (.reg []
 [⟨some 4,none,.mov,[.c (.int .i64 0)]⟩])
 .ret)
 .skip))
 (.seq (.reg []
 [⟨some 11,none,.mov,[.t 0]⟩,
 ⟨some 12,none,.mov,[.t 1]⟩,
 ⟨some 13,none,.bin .sub .scal,[.c (.int .i64 31),.t 12]⟩,
 ⟨some 14,none,.bin .shr .scal,[.t 11,.t 13]⟩,
 ⟨some 15,none,.bin .and .scal,[.t 14,.c (.int .u32 1)]⟩,
 ⟨some 16,none,.conv .i64,[.t 15]⟩,
 ⟨some 4,none,.mov,[.t 16]⟩])
 .ret))
theorem i77:fnInfo Tryz.prog 77 = some (17,[.t 4],ac77):=by kernel_rfl
def ac78:AC :=
 .seq (.reg []
 [⟨some 2,none,.mov,[.c (.int .i64 0)]⟩])
 (.seq (.reg []
 [⟨some 3,none,.mov,[.t 0]⟩,
 ⟨some 4,none,.call 75,[.t 3]⟩,
 ⟨some 5,none,.bin .sub .scal,[.c (.int .i64 32),.t 4]⟩,
 ⟨some 2,none,.mov,[.t 5]⟩])
 .ret)
theorem i78:fnInfo Tryz.prog 78 = some (6,[.t 2],ac78):=by kernel_rfl
end Go.Proofs.YtakallenldpkiaaGreatDoor.Abs

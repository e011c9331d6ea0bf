/- The functions of the program as the abstract machine's code: each is what the model's code is turned into. -/
import Derived.Test.YtmfggjebbhdejaaGreatA20
import Derived.Test.YtmfggjebbhdejaaGreatP0
import Derived.Test.YtmfggjebbhdejaaGreatProg
import Derived.KernelRfl
namespace Go.Proofs.YtmfggjebbhdejaaGreat.Abs
open Go
abbrev o (d:Nat) (p:AOp) (l:List AX):AO:=⟨some d,none,p,l⟩
theorem qv:Tryz.prog.follows .mixedOrders = true:=by kernel_rfl
def ac3_1:AC :=
 .seq (.seq (.reg []
 [o 31 .mov [.t 8],
 o 32 (.fldA 0) [.t 5],
 o 33 (.load none) [.t 32],
 o 34 .mov [.t 7],
 o 35 (.idxA 1) [.t 33,.t 34],
 o 36 (.fldA 0) [.t 35],
 o 37 (.load none) [.t 36],
 o 38 .lenL [.t 37],
 o 39 (.bin .lss .scal) [.t 31,.t 38]])
 (.cond (.t 39)
 .skip
 (.exit 2)))
 (.seq (.block 3 (.seq (.reg []
 [o 42 (.fldA 0) [.t 5],
 o 43 (.load none) [.t 42],
 o 44 .mov [.t 7],
 o 45 (.idxA 1) [.t 43,.t 44],
 o 46 (.fldA 0) [.t 45],
 o 47 (.load none) [.t 46],
 o 48 .mov [.t 8],
 o 49 (.idxA 10) [.t 47,.t 48],
 o 50 (.load (some 10)) [.t 49],
 o 9 (.alloc [.int .u32 0,.int .i64 0,.int .i64 0,.int .i64 0,.int .i64 0,.int .i64 0,.int .u32 0,.bool false,.int .i64 0,.nils]) [],
 ⟨none,none,.store 10,[.t 9,.t 50]⟩])
 (.seq (.reg []
 [o 51 (.fldA 7) [.t 9],
 o 52 (.load none) [.t 51],
 o 53 .mov [.t 52],
 ⟨some 54,some (53,true),.load (some 5),[.t 5]⟩,
 ⟨some 55,some (53,true),.mov,[.t 7]⟩,
 ⟨some 56,some (53,true),.load (some 10),[.t 9]⟩,
 ⟨some 57,some (53,true),.call 10,[.t 54,.t 55,.t 56]⟩,
 ⟨some 58,some (53,true),.unNot,[.t 57]⟩,
 o 59 .pick [.t 53,.t 58,.c (.bool false)]])
 (.cond (.t 59)
 (.seq (.reg []
 [o 4 .mov [.c (.bool false)]])
 .ret)
 .skip))))
 (.reg []
 [o 40 .mov [.t 8],
 o 41 (.bin .add .scal) [.t 40,.c (.int .i64 1)],
 o 8 .mov [.t 41]]))
def ac3_2:AC :=
 .seq (.seq (.reg []
 [o 24 .mov [.t 7],
 o 25 (.fldA 0) [.t 5],
 o 26 (.load none) [.t 25],
 o 27 .lenL [.t 26],
 o 28 (.bin .lss .scal) [.t 24,.t 27]])
 (.cond (.t 28)
 .skip
 (.exit 0)))
 (.seq (.block 1 (.seq (.reg []
 [o 8 .mov [.c (.int .i64 0)]])
 (.block 2 (.loop ac3_1))))
 (.reg []
 [o 29 .mov [.t 7],
 o 30 (.bin .add .scal) [.t 29,.c (.int .i64 1)],
 o 7 .mov [.t 30]]))
def ac3:AC :=
 .seq (.reg []
 [o 4 .mov [.c (.bool false)]])
 (.seq (.reg []
 [o 11 .mov [.t 0],
 o 12 .mov [.t 1],
 o 13 (.call 7) [.t 11,.t 12],
 o 10 .mov [.t 13],
 o 14 (.ext 0) [.t 10],
 o 15 (.ext 1) [.t 10],
 o 5 (.alloc [.nils,.nils,.nils,.nils,.bool false]) [],
 ⟨none,none,.store 5,[.t 5,.t 14]⟩,
 o 6 .mov [.t 15]])
 (.seq (.seq (.reg []
 [o 16 .mov [.t 6],
 o 17 .unNot [.t 16]])
 (.cond (.t 17)
 (.seq (.reg []
 [o 18 (.call 8) [],
 o 4 .mov [.t 18]])
 .ret)
 .skip))
 (.seq (.reg []
 [o 20 (.load (some 5)) [.t 5],
 o 21 (.call 9) [.t 20,.c .nils],
 o 19 .mov [.t 21],
 o 22 (.ext 0) [.t 19],
 o 23 (.ext 1) [.t 19],
 ⟨none,none,.store 5,[.t 5,.t 22]⟩])
 (.seq (.seq (.reg []
 [o 7 .mov [.c (.int .i64 0)]])
 (.block 0 (.loop ac3_2)))
 (.seq (.reg []
 [o 60 (.call 8) [],
 o 4 .mov [.t 60]])
 .ret)))))
theorem i3:fnInfo Tryz.prog 3 = some (61,[.t 4],ac3):=by kernel_rfl
def ac7_1:AC :=
 .seq (.seq (.reg []
 [o 16 .mov [.t 7],
 o 17 (.bin .eql .scal) [.t 16,.c (.int .i64 0)],
 o 18 .mov [.t 17],
 ⟨some 19,some (18,true),.mov,[.t 8]⟩,
 ⟨some 20,some (18,true),.mov,[.t 1]⟩,
 ⟨some 21,some (18,true),.lenL,[.t 20]⟩,
 ⟨some 22,some (18,true),.bin .lss .scal,[.t 19,.t 21]⟩,
 o 23 .pick [.t 18,.t 22,.c (.bool false)],
 o 24 .mov [.t 23],
 ⟨some 25,some (24,true),.mov,[.t 8]⟩,
 ⟨some 26,some (24,true),.bin .lss .scal,[.t 25,.c (.int .i64 30)]⟩,
 o 27 .pick [.t 24,.t 26,.c (.bool false)]])
 (.cond (.t 27)
 .skip
 (.exit 0)))
 (.seq (.block 1 (.seq (.reg []
 [o 30 .mov [.t 1],
 o 31 .mov [.t 8],
 o 32 (.idxA 14) [.t 30,.t 31],
 o 33 (.load (some 14)) [.t 32],
 o 34 (.call 13) [.t 33]])
 (.cond (.t 34)
 (.seq (.reg [[],[],[],[1,2],[3],[0,4],[5],[6],[6],[],[9,7,5,0,1,2,3,4,5,6,7,9],[8,10,0,1,2,3,4,5,6,7,8,9,10]]
 [o 36 (.load (some 5)) [.t 6],
 o 37 .mov [.t 1],
 o 38 .mov [.t 8],
 o 39 (.idxA 14) [.t 37,.t 38],
 o 40 (.load (some 14)) [.t 39],
 o 41 (.call 14) [.t 36,.t 40],
 o 35 .mov [.t 41],
 o 42 (.ext 0) [.t 35],
 o 43 (.ext 1) [.t 35],
 o 9 (.alloc [.nils,.nils,.nils,.nils,.bool false]) [],
 ⟨none,none,.store 5,[.t 9,.t 42]⟩,
 o 10 .mov [.t 43]])
 (.reg []
 [o 44 (.load (some 5)) [.t 9],
 ⟨none,none,.store 5,[.t 6,.t 44]⟩]))
 .skip)))
 (.reg []
 [o 28 .mov [.t 8],
 o 29 (.bin .add .scal) [.t 28,.c (.int .i64 1)],
 o 8 .mov [.t 29]]))
def ac7:AC :=
 .seq (.reg []
 [o 4 (.alloc [.nils,.nils,.nils,.nils,.bool false]) [],
 o 5 .mov [.c (.bool false)]])
 (.seq (.reg []
 [o 12 .mov [.t 0],
 o 13 (.call 11) [.t 12],
 o 11 .mov [.t 13],
 o 14 (.ext 0) [.t 11],
 o 15 (.ext 1) [.t 11],
 o 6 (.alloc [.nils,.nils,.nils,.nils,.bool false]) [],
 ⟨none,none,.store 5,[.t 6,.t 14]⟩,
 o 7 .mov [.t 15]])
 (.seq (.seq (.reg []
 [o 8 .mov [.c (.int .i64 0)]])
 (.block 0 (.loop ac7_1)))
 (.seq (.reg []
 [o 45 (.load (some 5)) [.t 6],
 o 46 .mov [.t 7],
 o 47 (.bin .eql .scal) [.t 46,.c (.int .i64 0)],
 ⟨none,none,.store 5,[.t 4,.t 45]⟩,
 o 5 .mov [.t 47]])
 .ret)))
theorem i7:fnInfo Tryz.prog 7 = some (48,[.c 4 (some 5),.t 5],ac7):=by kernel_rfl
def ac8:AC :=
 .seq (.reg []
 [o 0 .mov [.c (.bool false)]])
 (.seq (.reg []
 [o 7 (.call 11) [.c (.int .i64 2)],
 o 6 .mov [.t 7],
 o 8 (.ext 0) [.t 6],
 o 9 (.ext 1) [.t 6],
 o 1 (.alloc [.nils,.nils,.nils,.nils,.bool false]) [],
 ⟨none,none,.store 5,[.t 1,.t 8]⟩,
 o 2 .mov [.t 9]])
 (.seq (.reg [[],[],[0,1,1],[2],[3],[3],[4,2,0,1,2,3,4],[5,6,0,1,2,3,4,5,6]]
 [o 11 (.load (some 5)) [.t 1],
 o 12 (.call 26) [],
 o 13 (.call 25) [.t 11,.c (.int .i64 0),.c (.int .i64 1),.t 12],
 o 10 .mov [.t 13],
 o 14 (.ext 0) [.t 10],
 o 15 (.ext 1) [.t 10],
 ⟨none,none,.store 5,[.t 1,.t 14]⟩,
 o 3 .mov [.t 15]])
 (.seq (.reg []
 [o 17 (.load (some 5)) [.t 1],
 o 18 (.build [.int .i64 0,.int .u32 0] [(0,1)]) [.c (.int .i64 1)],
 o 19 (.bslice 2 81) [.t 18],
 o 20 (.build [.int .u32 0,.int .i64 0,.int .i64 0,.int .i64 0,.int .i64 0,.int .i64 0,.int .u32 0,.bool false,.int .i64 0,.nils] [(2,1),(4,1),(9,1)]) [.c (.int .i64 2),.c (.int .i64 110),.t 19],
 o 21 (.call 27) [.t 17,.c (.int .i64 0),.t 20],
 o 16 .mov [.t 21],
 o 22 (.ext 0) [.t 16],
 o 23 (.ext 1) [.t 16],
 ⟨none,none,.store 5,[.t 1,.t 22]⟩,
 o 4 .mov [.t 23]])
 (.seq (.reg []
 [o 25 (.load (some 5)) [.t 1],
 o 26 (.call 9) [.t 25,.c .nils],
 o 24 .mov [.t 26],
 o 27 (.ext 0) [.t 24],
 o 28 (.ext 1) [.t 24],
 ⟨none,none,.store 5,[.t 1,.t 27]⟩,
 o 5 .mov [.t 28]])
 (.seq (.reg []
 [o 29 .mov [.t 2],
 o 30 (.bin .eql .scal) [.t 29,.c (.int .i64 0)],
 o 31 .mov [.t 30],
 ⟨some 32,some (31,true),.mov,[.t 3]⟩,
 ⟨some 33,some (31,true),.bin .eql .scal,[.t 32,.c (.int .i64 0)]⟩,
 o 34 .pick [.t 31,.t 33,.c (.bool false)],
 o 35 .mov [.t 34],
 ⟨some 36,some (35,true),.mov,[.t 4]⟩,
 ⟨some 37,some (35,true),.bin .eql .scal,[.t 36,.c (.int .i64 0)]⟩,
 o 38 .pick [.t 35,.t 37,.c (.bool false)],
 o 39 .mov [.t 38],
 ⟨some 40,some (39,true),.mov,[.t 5]⟩,
 ⟨some 41,some (39,true),.bin .eql .scal,[.t 40,.c (.int .i64 2)]⟩,
 o 42 .pick [.t 39,.t 41,.c (.bool false)],
 o 43 .mov [.t 42],
 ⟨some 44,some (43,true),.fldA 1,[.t 1]⟩,
 ⟨some 45,some (43,true),.load none,[.t 44]⟩,
 ⟨some 46,some (43,true),.lenL,[.t 45]⟩,
 ⟨some 47,some (43,true),.bin .eql .scal,[.t 46,.c (.int .i64 2)]⟩,
 o 48 .pick [.t 43,.t 47,.c (.bool false)],
 o 49 .mov [.t 48],
 ⟨some 50,some (49,true),.fldA 1,[.t 1]⟩,
 ⟨some 51,some (49,true),.load none,[.t 50]⟩,
 ⟨some 52,some (49,true),.idxA 1,[.t 51,.c (.int .i64 1)]⟩,
 ⟨some 53,some (49,true),.load none,[.t 52]⟩,
 ⟨some 54,some (49,true),.lenL,[.t 53]⟩,
 ⟨some 55,some (49,true),.bin .eql .scal,[.t 54,.c (.int .i64 1)]⟩,
 o 56 .pick [.t 49,.t 55,.c (.bool false)],
 o 57 .mov [.t 56],
 ⟨some 58,some (57,true),.fldA 1,[.t 1]⟩,
 ⟨some 59,some (57,true),.load none,[.t 58]⟩,
 ⟨some 60,some (57,true),.idxA 1,[.t 59,.c (.int .i64 1)]⟩,
 ⟨some 61,some (57,true),.load none,[.t 60]⟩,
 ⟨some 62,some (57,true),.idxA 10,[.t 61,.c (.int .i64 0)]⟩,
 ⟨some 63,some (57,true),.fldA 7,[.t 62]⟩,
 ⟨some 64,some (57,true),.load none,[.t 63]⟩,
 o 65 .pick [.t 57,.t 64,.c (.bool false)],
 o 0 .mov [.t 65]])
 .ret)))))
theorem i8:fnInfo Tryz.prog 8 = some (66,[.t 0],ac8):=by kernel_rfl
def ac9_1:AC :=
 .seq (.block 1 (.seq (.reg []
 [o 7 .mov [.c (.int .i64 0)]])
 (.seq (.seq (.reg []
 [o 12 .mov [.t 6],
 o 13 .mov [.t 1],
 o 14 .lenL [.t 13],
 o 15 (.bin .lss .scal) [.t 12,.t 14]])
 (.cond (.t 15)
 (.reg []
 [o 16 .mov [.t 1],
 o 17 .mov [.t 6],
 o 18 (.idxA 1) [.t 16,.t 17],
 o 19 (.load none) [.t 18],
 o 7 .mov [.t 19]])
 .skip))
 (.seq (.reg []
 [o 21 (.load (some 5)) [.t 2],
 o 22 .mov [.t 7],
 o 23 (.call 28) [.t 21,.t 22],
 o 20 .mov [.t 23],
 o 24 (.ext 0) [.t 20],
 o 25 (.ext 1) [.t 20],
 o 8 (.alloc [.nils,.nils,.nils,.nils,.bool false]) [],
 ⟨none,none,.store 5,[.t 8,.t 24]⟩,
 o 9 .mov [.t 25]])
 (.seq (.seq (.reg []
 [o 26 .mov [.t 9],
 o 27 .unNot [.t 26]])
 (.cond (.t 27)
 (.seq (.reg []
 [o 28 (.load (some 5)) [.t 2],
 o 29 .mov [.t 6],
 ⟨none,none,.store 5,[.t 4,.t 28]⟩,
 o 5 .mov [.t 29]])
 .ret)
 .skip))
 (.reg []
 [o 30 (.load (some 5)) [.t 8],
 ⟨none,none,.store 5,[.t 2,.t 30]⟩]))))))
 (.reg []
 [o 10 .mov [.t 6],
 o 11 (.bin .add .scal) [.t 10,.c (.int .i64 1)],
 o 6 .mov [.t 11]])
def ac9:AC :=
 .seq (.reg []
 [o 2 .box [.t 0],
 o 4 (.alloc [.nils,.nils,.nils,.nils,.bool false]) [],
 o 5 .mov [.c (.int .i64 0)]])
 (.seq (.reg []
 [o 6 .mov [.c (.int .i64 0)]])
 (.block 0 (.loop ac9_1)))
theorem i9:fnInfo Tryz.prog 9 = some (31,[.c 4 (some 5),.t 5],ac9):=by kernel_rfl
def ac10_1:AC :=
 .seq (.seq (.reg []
 [o 11 .mov [.t 8],
 o 12 (.fldA 2) [.t 3],
 o 13 (.load none) [.t 12],
 o 14 .lenL [.t 13],
 o 15 (.bin .lss .scal) [.t 11,.t 14]])
 (.cond (.t 15)
 .skip
 (.exit 0)))
 (.seq (.block 1 (.reg [[],[0],[1],[2,1],[1],[3,4,1],[5,1],[6,1],[1],[8,1],[7,9,1],[10,1,1],[11],[12,11],[11],[13,14,11],[15,11],[16,11],[11],[17,18,11],[11,19,1],[1,20],[21,11,0,1,2,3,4,5,6,7,8,9,10,11,12,13,14,15,16,17,18,19,20,21]]
 [o 18 .mov [.t 7],
 o 19 .mov [.t 18],
 ⟨some 20,some (19,false),.fldA 2,[.t 3]⟩,
 ⟨some 21,some (19,false),.load none,[.t 20]⟩,
 ⟨some 22,some (19,false),.mov,[.t 8]⟩,
 ⟨some 23,some (19,false),.idxA 3,[.t 21,.t 22]⟩,
 ⟨some 24,some (19,false),.fldA 0,[.t 23]⟩,
 ⟨some 25,some (19,false),.load none,[.t 24]⟩,
 ⟨some 26,some (19,false),.fldA 8,[.t 5]⟩,
 ⟨some 27,some (19,false),.load none,[.t 26]⟩,
 ⟨some 28,some (19,false),.bin .eql .scal,[.t 25,.t 27]⟩,
 ⟨some 29,some (19,false),.mov,[.t 28]⟩,
 ⟨some 30,some (29,true),.fldA 2,[.t 3]⟩,
 ⟨some 31,some (29,true),.load none,[.t 30]⟩,
 ⟨some 32,some (29,true),.mov,[.t 8]⟩,
 ⟨some 33,some (29,true),.idxA 3,[.t 31,.t 32]⟩,
 ⟨some 34,some (29,true),.fldA 1,[.t 33]⟩,
 ⟨some 35,some (29,true),.load none,[.t 34]⟩,
 ⟨some 36,some (29,true),.mov,[.t 1]⟩,
 ⟨some 37,some (29,true),.bin .eql .scal,[.t 35,.t 36]⟩,
 ⟨some 38,some (19,false),.pick,[.t 29,.t 37,.c (.bool false)]⟩,
 o 39 .pick [.t 19,.c (.bool true),.t 38],
 o 7 .mov [.t 39]]))
 (.reg []
 [o 16 .mov [.t 8],
 o 17 (.bin .add .scal) [.t 16,.c (.int .i64 1)],
 o 8 .mov [.t 17]]))
def ac10_2:AC :=
 .seq (.seq (.reg []
 [o 55 .mov [.t 9],
 o 56 (.fldA 1) [.t 3],
 o 57 (.load none) [.t 56],
 o 58 (.fldA 8) [.t 5],
 o 59 (.load none) [.t 58],
 o 60 (.idxA 1) [.t 57,.t 59],
 o 61 (.load none) [.t 60],
 o 62 .lenL [.t 61],
 o 63 (.bin .lss .scal) [.t 55,.t 62]])
 (.cond (.t 63)
 .skip
 (.exit 2)))
 (.seq (.block 3 (.seq (.reg []
 [o 66 (.fldA 1) [.t 3],
 o 67 (.load none) [.t 66],
 o 68 (.fldA 8) [.t 5],
 o 69 (.load none) [.t 68],
 o 70 (.idxA 1) [.t 67,.t 69],
 o 71 (.load none) [.t 70],
 o 72 .mov [.t 9],
 o 73 (.idxA 10) [.t 71,.t 72],
 o 74 (.load (some 10)) [.t 73],
 o 10 (.alloc [.int .u32 0,.int .i64 0,.int .i64 0,.int .i64 0,.int .i64 0,.int .i64 0,.int .u32 0,.bool false,.int .i64 0,.nils]) [],
 ⟨none,none,.store 10,[.t 10,.t 74]⟩])
 (.seq (.reg []
 [o 75 (.fldA 0) [.t 10],
 o 76 (.load (some 2)) [.t 75],
 o 77 (.fldA 0) [.t 5],
 o 78 (.load (some 2)) [.t 77],
 o 79 (.bin .eql (.flat [.int .u32,.int .i64])) [.t 76,.t 78],
 o 80 .mov [.t 79],
 ⟨some 81,some (80,true),.fldA 7,[.t 10]⟩,
 ⟨some 82,some (80,true),.load none,[.t 81]⟩,
 ⟨some 83,some (80,true),.unNot,[.t 82]⟩,
 o 84 .pick [.t 80,.t 83,.c (.bool false)]])
 (.cond (.t 84)
 (.seq (.reg []
 [o 85 (.fldA 7) [.t 10],
 ⟨none,none,.store 1,[.t 85,.c (.bool true)]⟩])
 (.seq (.reg []
 [o 86 (.fldA 8) [.t 5],
 o 87 (.load none) [.t 86],
 o 88 (.fldA 8) [.t 10],
 ⟨none,none,.store 1,[.t 88,.t 87]⟩])
 (.seq (.reg [[],[0],[],[2,1],[1,3,3],[4,4,0,1,2,3,4]]
 [o 89 (.load (some 10)) [.t 10],
 o 90 (.call 30) [.t 89],
 o 91 (.load (some 10)) [.t 5],
 o 92 (.call 30) [.t 91],
 o 93 (.call 29) [.t 90,.t 92],
 o 6 .mov [.t 93]])
 .ret)))
 .skip))))
 (.reg []
 [o 64 .mov [.t 9],
 o 65 (.bin .add .scal) [.t 64,.c (.int .i64 1)],
 o 9 .mov [.t 65]]))
def ac10:AC :=
 .seq (.reg []
 [o 3 .box [.t 0],
 o 5 .box [.t 2],
 o 6 .mov [.c (.bool false)]])
 (.seq (.reg []
 [o 7 .mov [.c (.bool false)]])
 (.seq (.seq (.reg []
 [o 8 .mov [.c (.int .i64 0)]])
 (.block 0 (.loop ac10_1)))
 (.seq (.seq (.reg []
 [o 40 .mov [.t 7],
 o 41 .unNot [.t 40],
 o 42 .mov [.t 41],
 ⟨some 43,some (42,false),.fldA 8,[.t 5]⟩,
 ⟨some 44,some (42,false),.load none,[.t 43]⟩,
 ⟨some 45,some (42,false),.bin .lss .scal,[.t 44,.c (.int .i64 0)]⟩,
 o 46 .pick [.t 42,.c (.bool true),.t 45],
 o 47 .mov [.t 46],
 ⟨some 48,some (47,false),.fldA 8,[.t 5]⟩,
 ⟨some 49,some (47,false),.load none,[.t 48]⟩,
 ⟨some 50,some (47,false),.fldA 1,[.t 3]⟩,
 ⟨some 51,some (47,false),.load none,[.t 50]⟩,
 ⟨some 52,some (47,false),.lenL,[.t 51]⟩,
 ⟨some 53,some (47,false),.bin .geq .scal,[.t 49,.t 52]⟩,
 o 54 .pick [.t 47,.c (.bool true),.t 53]])
 (.cond (.t 54)
 (.seq (.reg []
 [o 6 .mov [.c (.bool false)]])
 .ret)
 .skip))
 (.seq (.seq (.reg []
 [o 9 .mov [.c (.int .i64 0)]])
 (.block 2 (.loop ac10_2)))
 (.seq (.reg []
 [o 6 .mov [.c (.bool false)]])
 .ret)))))
theorem i10:fnInfo Tryz.prog 10 = some (94,[.t 6],ac10):=by kernel_rfl
def ac11:AC :=
 .seq (.reg []
 [o 2 (.alloc [.nils,.nils,.nils,.nils,.bool false]) [],
 o 3 .mov [.c (.int .i64 0)]])
 (.seq (.seq (.reg []
 [o 4 .mov [.t 0],
 o 5 (.bin .lss .scal) [.t 4,.c (.int .i64 1)],
 o 6 .mov [.t 5],
 ⟨some 7,some (6,false),.mov,[.t 0]⟩,
 ⟨some 8,some (6,false),.bin .gtr .scal,[.t 7,.c (.int .i64 6)]⟩,
 o 9 .pick [.t 6,.c (.bool true),.t 8]])
 (.cond (.t 9)
 (.seq (.reg []
 [o 10 (.build [.nils,.nils,.nils,.nils,.bool false] []) [],
 ⟨none,none,.store 5,[.t 2,.t 10]⟩,
 o 3 .mov [.c (.int .i64 1)]])
 .ret)
 .skip))
 (.seq (.reg [[],[0,0],[],[2,2],[1,3],[4,0,1,2,3,4],[5,0,1,2,3,4,5]]
 [o 11 .mov [.t 0],
 o 12 (.mkslice 1 36 24 [.ro 10 []]) [.t 11,.t 11],
 o 13 .mov [.t 0],
 o 14 (.mkslice 1 34 24 [.ro 10 []]) [.t 13,.t 13],
 o 15 (.build [.nils,.nils,.nils,.nils,.bool false] [(0,1),(1,1)]) [.t 12,.t 14],
 ⟨none,none,.store 5,[.t 2,.t 15]⟩,
 o 3 .mov [.c (.int .i64 0)]])
 .ret))
theorem i11:fnInfo Tryz.prog 11 = some (16,[.c 2 (some 5),.t 3],ac11):=by kernel_rfl
def ac13_1:AC :=
 .seq (.seq (.reg []
 [o 15 .mov [.t 3],
 o 16 (.fldA 13) [.t 1],
 o 17 (.load none) [.t 16],
 o 18 .lenL [.t 17],
 o 19 (.bin .lss .scal) [.t 15,.t 18]])
 (.cond (.t 19)
 .skip
 (.exit 0)))
 (.seq (.block 1 (.seq (.reg []
 [o 22 (.fldA 13) [.t 1],
 o 23 (.load none) [.t 22],
 o 24 .mov [.t 3],
 o 25 (.idxA 12) [.t 23,.t 24],
 o 26 (.fldA 2) [.t 25],
 o 27 (.load none) [.t 26],
 o 28 .lenL [.t 27],
 o 29 (.bin .gtr .scal) [.t 28,.c (.int .i64 8)],
 o 30 .mov [.t 29],
 ⟨some 31,some (30,false),.fldA 13,[.t 1]⟩,
 ⟨some 32,some (30,false),.load none,[.t 31]⟩,
 ⟨some 33,some (30,false),.mov,[.t 3]⟩,
 ⟨some 34,some (30,false),.idxA 12,[.t 32,.t 33]⟩,
 ⟨some 35,some (30,false),.fldA 6,[.t 34]⟩,
 ⟨some 36,some (30,false),.load none,[.t 35]⟩,
 ⟨some 37,some (30,false),.lenL,[.t 36]⟩,
 ⟨some 38,some (30,false),.bin .gtr .scal,[.t 37,.c (.int .i64 8)]⟩,
 o 39 .pick [.t 30,.c (.bool true),.t 38]])
 (.cond (.t 39)
 (.seq (.reg []
 [o 2 .mov [.c (.bool false)]])
 .ret)
 .skip)))
 (.reg []
 [o 20 .mov [.t 3],
 o 21 (.bin .add .scal) [.t 20,.c (.int .i64 1)],
 o 3 .mov [.t 21]]))
def ac13:AC :=
 .seq (.reg []
 [o 1 .box [.t 0],
 o 2 .mov [.c (.bool false)]])
 (.seq (.seq (.reg []
 [o 4 (.fldA 3) [.t 1],
 o 5 (.fldA 9) [.t 4],
 o 6 (.load none) [.t 5],
 o 7 .lenL [.t 6],
 o 8 (.bin .gtr .scal) [.t 7,.c (.int .i64 20)],
 o 9 .mov [.t 8],
 ⟨some 10,some (9,false),.fldA 13,[.t 1]⟩,
 ⟨some 11,some (9,false),.load none,[.t 10]⟩,
 ⟨some 12,some (9,false),.lenL,[.t 11]⟩,
 ⟨some 13,some (9,false),.bin .gtr .scal,[.t 12,.c (.int .i64 8)]⟩,
 o 14 .pick [.t 9,.c (.bool true),.t 13]])
 (.cond (.t 14)
 (.seq (.reg []
 [o 2 .mov [.c (.bool false)]])
 .ret)
 .skip))
 (.seq (.seq (.reg []
 [o 3 .mov [.c (.int .i64 0)]])
 (.block 0 (.loop ac13_1)))
 (.seq (.reg []
 [o 2 .mov [.c (.bool true)]])
 .ret)))
theorem i13:fnInfo Tryz.prog 13 = some (40,[.t 2],ac13):=by kernel_rfl
def ac14:AC :=
 .seq (.reg []
 [o 2 .box [.t 0],
 o 3 .box [.t 1],
 o 4 (.alloc [.nils,.nils,.nils,.nils,.bool false]) [],
 o 5 .mov [.c (.int .i64 0)]])
 (.seq (.seq (.reg []
 [o 8 (.fldA 0) [.t 3],
 o 9 (.load none) [.t 8]])
 (.block 0 (.seq (.reg []
 [o 11 (.bin .eql .scal) [.t 9,.c (.int .i64 1)],
 o 10 .mov [.t 11]])
 (.cond (.t 10)
 (.seq (.reg []
 [o 12 (.load (some 5)) [.t 2],
 o 13 (.fldA 1) [.t 3],
 o 14 (.load none) [.t 13],
 o 15 (.fldA 3) [.t 3],
 o 16 (.load (some 10)) [.t 15],
 o 17 (.call 27) [.t 12,.t 14,.t 16],
 o 18 (.ext 0) [.t 17],
 o 19 (.ext 1) [.t 17],
 ⟨none,none,.store 5,[.t 4,.t 18]⟩,
 o 5 .mov [.t 19]])
 .ret)
 (.seq (.reg []
 [o 21 (.bin .eql .scal) [.t 9,.c (.int .i64 2)],
 o 20 .mov [.t 21]])
 (.cond (.t 20)
 (.seq (.reg []
 [o 22 (.load (some 5)) [.t 2],
 o 23 (.fldA 1) [.t 3],
 o 24 (.load none) [.t 23],
 o 25 (.fldA 3) [.t 3],
 o 26 (.load (some 10)) [.t 25],
 o 27 (.call 31) [.t 22,.t 24,.t 26],
 o 28 (.ext 0) [.t 27],
 o 29 (.ext 1) [.t 27],
 ⟨none,none,.store 5,[.t 4,.t 28]⟩,
 o 5 .mov [.t 29]])
 .ret)
 (.seq (.reg []
 [o 31 (.bin .eql .scal) [.t 9,.c (.int .i64 3)],
 o 30 .mov [.t 31]])
 (.cond (.t 30)
 (.seq (.reg []
 [o 32 (.load (some 5)) [.t 2],
 o 33 (.fldA 1) [.t 3],
 o 34 (.load none) [.t 33],
 o 35 (.fldA 2) [.t 3],
 o 36 (.load none) [.t 35],
 o 37 (.fldA 13) [.t 3],
 o 38 (.load none) [.t 37],
 o 39 (.call 25) [.t 32,.t 34,.t 36,.t 38],
 o 40 (.ext 0) [.t 39],
 o 41 (.ext 1) [.t 39],
 ⟨none,none,.store 5,[.t 4,.t 40]⟩,
 o 5 .mov [.t 41]])
 .ret)
 (.seq (.reg []
 [o 43 (.bin .eql .scal) [.t 9,.c (.int .i64 4)],
 o 42 .mov [.t 43]])
 (.cond (.t 42)
 (.seq (.reg []
 [o 44 (.load (some 5)) [.t 2],
 o 45 (.fldA 1) [.t 3],
 o 46 (.load none) [.t 45],
 o 47 (.call 32) [.t 44,.t 46],
 o 48 (.ext 0) [.t 47],
 o 49 (.ext 1) [.t 47],
 ⟨none,none,.store 5,[.t 4,.t 48]⟩,
 o 5 .mov [.t 49]])
 .ret)
 .skip))))))))))
 (.seq (.reg []
 [o 51 (.load (some 5)) [.t 2],
 o 52 (.fldA 2) [.t 3],
 o 53 (.load none) [.t 52],
 o 54 (.call 28) [.t 51,.t 53],
 o 50 .mov [.t 54],
 o 55 (.ext 0) [.t 50],
 o 56 (.ext 1) [.t 50],
 o 6 (.alloc [.nils,.nils,.nils,.nils,.bool false]) [],
 ⟨none,none,.store 5,[.t 6,.t 55]⟩,
 o 7 .mov [.t 56]])
 (.seq (.reg []
 [o 57 (.load (some 5)) [.t 6],
 ⟨none,none,.store 5,[.t 4,.t 57]⟩,
 o 5 .mov [.c (.int .i64 0)]])
 .ret)))
theorem i14:fnInfo Tryz.prog 14 = some (58,[.c 4 (some 5),.t 5],ac14):=by kernel_rfl
def ac25_1:AC :=
 .seq (.reg []
 [o 64 (.bin .lss .scal) [.t 63,.t 62]])
 (.seq (.cond (.t 64)
 .skip
 (.exit 0))
 (.seq (.block 1 (.seq (.reg []
 [o 65 (.idxA 10) [.t 61,.t 63],
 o 66 (.load (some 10)) [.t 65],
 o 12 (.alloc [.int .u32 0,.int .i64 0,.int .i64 0,.int .i64 0,.int .i64 0,.int .i64 0,.int .u32 0,.bool false,.int .i64 0,.nils]) [],
 ⟨none,none,.store 10,[.t 12,.t 66]⟩])
 (.reg []
 [o 67 .mov [.t 10],
 o 68 (.load none) [.t 5],
 o 69 (.fldA 0) [.t 12],
 o 70 (.load (some 2)) [.t 69],
 o 71 (.call 68) [.t 67,.t 68,.t 70]])))
 (.reg []
 [o 72 (.bin .add .scal) [.t 63,.c (.int .i64 1)],
 o 63 .mov [.t 72]])))
def ac25:AC :=
 .seq (.reg []
 [o 4 .box [.t 0],
 o 5 .box [.t 1],
 o 6 .box [.t 2],
 o 8 (.alloc [.nils,.nils,.nils,.nils,.bool false]) [],
 o 9 .mov [.c (.int .i64 0)]])
 (.seq (.seq (.reg []
 [o 13 (.load (some 5)) [.t 4],
 o 14 (.load none) [.t 5],
 o 15 (.call 64) [.t 13,.t 14],
 o 16 .unNot [.t 15],
 o 17 .mov [.t 16],
 ⟨some 18,some (17,false),.load (some 5),[.t 4]⟩,
 ⟨some 19,some (17,false),.load none,[.t 6]⟩,
 ⟨some 20,some (17,false),.call 64,[.t 18,.t 19]⟩,
 ⟨some 21,some (17,false),.unNot,[.t 20]⟩,
 o 22 .pick [.t 17,.c (.bool true),.t 21],
 o 23 .mov [.t 22],
 ⟨some 24,some (23,false),.load none,[.t 5]⟩,
 ⟨some 25,some (23,false),.load none,[.t 6]⟩,
 ⟨some 26,some (23,false),.bin .eql .scal,[.t 24,.t 25]⟩,
 o 27 .pick [.t 23,.c (.bool true),.t 26],
 o 28 .mov [.t 27],
 ⟨some 29,some (28,false),.mov,[.t 3]⟩,
 ⟨some 30,some (28,false),.call 65,[.t 29]⟩,
 ⟨some 31,some (28,false),.unNot,[.t 30]⟩,
 o 32 .pick [.t 28,.c (.bool true),.t 31]])
 (.cond (.t 32)
 (.seq (.reg []
 [o 33 (.load (some 5)) [.t 4],
 ⟨none,none,.store 5,[.t 8,.t 33]⟩,
 o 9 .mov [.c (.int .i64 1)]])
 .ret)
 .skip))
 (.seq (.seq (.reg []
 [o 34 (.fldA 2) [.t 4],
 o 35 (.load none) [.t 34],
 o 36 (.mkfn 67 0) [.t 5,.t 6],
 o 37 (.call 66) [.t 35,.t 36]])
 (.cond (.t 37)
 (.seq (.reg []
 [o 38 (.load (some 5)) [.t 4],
 ⟨none,none,.store 5,[.t 8,.t 38]⟩,
 o 9 .mov [.c (.int .i64 7)]])
 .ret)
 .skip))
 (.seq (.reg []
 [o 39 (.load (some 5)) [.t 4],
 o 40 (.call 41) [.t 39],
 o 10 .mov [.t 40]])
 (.seq (.reg [[],[],[1],[2],[3],[],[],[],[5,6,7],[8],[4,9],[0,0,1,2,3,4,5,6,7,8,9,10],[11,0,1,2,3,4,5,6,7,8,9,10],[12,10,10,0,1,2,3,4,5,6,7,8,9,10]]
 [o 41 .mov [.t 10],
 o 42 .mov [.t 10],
 o 43 .nilchk [.t 42],
 o 44 (.fldA 2) [.t 43],
 o 45 (.load none) [.t 44],
 o 46 (.load none) [.t 5],
 o 47 (.load none) [.t 6],
 o 48 .mov [.t 3],
 o 49 (.build [.int .i64 0,.int .i64 0,.nils] [(0,1),(1,1),(2,1)]) [.t 46,.t 47,.t 48],
 o 50 (.bslice 3 84) [.t 49],
 o 51 (.append 3 84 40) [.t 45,.t 50],
 o 52 .nilchk [.t 41],
 o 53 (.fldA 2) [.t 52],
 ⟨none,none,.store 1,[.t 53,.t 51]⟩])
 (.seq (.seq (.reg [[],[0],[1],[2],[],[3,4],[5],[6],[7],[]]
 [o 54 .mov [.t 10],
 o 55 .nilchk [.t 54],
 o 56 (.fldA 0) [.t 55],
 o 57 (.load none) [.t 56],
 o 58 (.load none) [.t 5],
 o 59 (.idxA 1) [.t 57,.t 58],
 o 60 (.fldA 0) [.t 59],
 o 61 (.load none) [.t 60],
 o 62 .lenL [.t 61],
 o 63 .mov [.c (.int .i64 0)]])
 (.block 0 (.loop ac25_1)))
 (.seq (.reg []
 [o 73 .mov [.t 10],
 o 74 .nilchk [.t 73],
 o 75 (.load (some 5)) [.t 74],
 ⟨none,none,.store 5,[.t 8,.t 75]⟩,
 o 9 .mov [.c (.int .i64 0)]])
 .ret))))))
theorem i25:fnInfo Tryz.prog 25 = some (76,[.c 8 (some 5),.t 9],ac25):=by kernel_rfl
def ac26:AC :=
 .seq (.reg []
 [o 0 .mov [.c .nils]])
 (.seq (.reg []
 [o 1 (.build [.int .i64 0,.bool false,.nils,.int .i64 0,.int .i64 0,.int .i64 0,.nils,.int .i64 0,.int .i64 0,.int .i64 0,.bool false,.int .u32 0] [(0,1),(1,1),(3,1),(5,1),(7,1),(9,1)]) [.c (.int .i64 1),.c (.bool true),.c (.int .i64 (-1)),.c (.int .i64 16777215),.c (.int .i64 (-1)),.c (.int .i64 (-1))],
 o 2 (.bslice 12 93) [.t 1],
 o 0 .mov [.t 2]])
 .ret)
theorem i26:fnInfo Tryz.prog 26 = some (3,[.t 0],ac26):=by kernel_rfl
def ac27:AC :=
 .seq (.reg []
 [o 3 .box [.t 0],
 o 5 .box [.t 2],
 o 6 (.alloc [.nils,.nils,.nils,.nils,.bool false]) [],
 o 7 .mov [.c (.int .i64 0)]])
 (.seq (.seq (.reg []
 [o 10 (.load (some 5)) [.t 3],
 o 11 .mov [.t 1],
 o 12 (.call 64) [.t 10,.t 11],
 o 13 .unNot [.t 12],
 o 14 .mov [.t 13],
 ⟨some 15,some (14,false),.fldA 7,[.t 5]⟩,
 ⟨some 16,some (14,false),.load none,[.t 15]⟩,
 o 17 .pick [.t 14,.c (.bool true),.t 16]])
 (.cond (.t 17)
 (.seq (.reg []
 [o 18 (.load (some 5)) [.t 3],
 ⟨none,none,.store 5,[.t 6,.t 18]⟩,
 o 7 .mov [.c (.int .i64 1)]])
 .ret)
 .skip))
 (.seq (.reg [[],[0],[],[1,2],[3],[],[4,5],[6],[7],[7],[],[10,8,6,0,1,2,3,4,5,6,7,8,10],[9,11,0,1,2,3,4,5,6,7,8,9,10,11]]
 [o 20 (.fldA 0) [.t 3],
 o 21 (.load none) [.t 20],
 o 22 .mov [.t 1],
 o 23 (.idxA 1) [.t 21,.t 22],
 o 24 (.load (some 1)) [.t 23],
 o 25 (.load (some 10)) [.t 5],
 o 26 (.call 48) [.t 24,.t 25],
 o 19 .mov [.t 26],
 o 27 (.ext 0) [.t 19],
 o 28 (.ext 1) [.t 19],
 o 8 (.alloc [.nils]) [],
 ⟨none,none,.store 1,[.t 8,.t 27]⟩,
 o 9 .mov [.t 28]])
 (.seq (.seq (.reg []
 [o 29 .mov [.t 9],
 o 30 (.bin .neq .scal) [.t 29,.c (.int .i64 0)]])
 (.cond (.t 30)
 (.seq (.reg []
 [o 31 (.load (some 5)) [.t 3],
 o 32 .mov [.t 9],
 ⟨none,none,.store 5,[.t 6,.t 31]⟩,
 o 7 .mov [.t 32]])
 .ret)
 .skip))
 (.seq (.reg []
 [o 33 (.load (some 5)) [.t 3],
 o 34 .mov [.t 1],
 o 35 (.load (some 1)) [.t 8],
 o 36 (.load (some 10)) [.t 5],
 o 37 (.call 69) [.t 33,.t 34,.t 35,.t 36],
 ⟨none,none,.store 5,[.t 6,.t 37]⟩,
 o 7 .mov [.c (.int .i64 0)]])
 .ret))))
theorem i27:fnInfo Tryz.prog 27 = some (38,[.c 6 (some 5),.t 7],ac27):=by kernel_rfl
def ac28:AC :=
 .seq (.reg []
 [o 2 .box [.t 0],
 o 4 (.alloc [.nils,.nils,.nils,.nils,.bool false]) [],
 o 5 .mov [.c (.bool false)]])
 (.seq (.seq (.reg []
 [o 9 (.fldA 3) [.t 2],
 o 10 (.load none) [.t 9],
 o 11 .lenL [.t 10],
 o 12 (.bin .eql .scal) [.t 11,.c (.int .i64 0)]])
 (.cond (.t 12)
 (.seq (.reg []
 [o 13 (.load (some 5)) [.t 2],
 ⟨none,none,.store 5,[.t 4,.t 13]⟩,
 o 5 .mov [.c (.bool false)]])
 .ret)
 .skip))
 (.seq (.reg []
 [o 14 (.load (some 5)) [.t 2],
 o 15 (.call 41) [.t 14],
 o 6 .mov [.t 15]])
 (.seq (.reg []
 [o 16 .mov [.t 1],
 o 17 (.minmax true) [.t 16,.c (.int .i64 0)],
 o 18 .mov [.t 6],
 o 19 .nilchk [.t 18],
 o 20 (.fldA 3) [.t 19],
 o 21 (.load none) [.t 20],
 o 22 .lenL [.t 21],
 o 23 (.bin .rem .scal) [.t 17,.t 22],
 o 7 .mov [.t 23]])
 (.seq (.reg []
 [o 24 .mov [.t 6],
 o 25 .nilchk [.t 24],
 o 26 (.fldA 3) [.t 25],
 o 27 (.load none) [.t 26],
 o 28 .mov [.t 7],
 o 29 (.idxA 3) [.t 27,.t 28],
 o 30 (.load (some 3)) [.t 29],
 o 8 (.alloc [.int .i64 0,.int .u32 0,.int .i64 0]) [],
 ⟨none,none,.store 3,[.t 8,.t 30]⟩])
 (.seq (.reg []
 [o 31 .mov [.t 6],
 o 32 .mov [.t 6],
 o 33 .nilchk [.t 32],
 o 34 (.fldA 3) [.t 33],
 o 35 (.load none) [.t 34],
 o 36 .mov [.t 7],
 o 37 .mov [.t 7],
 o 38 (.bin .add .scal) [.t 37,.c (.int .i64 1)],
 o 39 (.call 70) [.t 35,.t 36,.t 38],
 o 40 .nilchk [.t 31],
 o 41 (.fldA 3) [.t 40],
 ⟨none,none,.store 1,[.t 41,.t 39]⟩])
 (.seq (.reg []
 [o 42 .mov [.t 6],
 o 43 (.fldA 0) [.t 8],
 o 44 (.load none) [.t 43],
 o 45 (.fldA 1) [.t 8],
 o 46 (.load (some 2)) [.t 45],
 o 47 (.call 71) [.t 42,.t 44,.t 46]])
 (.seq (.reg []
 [o 48 .mov [.t 6],
 o 49 .nilchk [.t 48],
 o 50 (.load (some 5)) [.t 49],
 ⟨none,none,.store 5,[.t 4,.t 50]⟩,
 o 5 .mov [.c (.bool true)]])
 .ret)))))))
theorem i28:fnInfo Tryz.prog 28 = some (51,[.c 4 (some 5),.t 5],ac28):=by kernel_rfl
def ac29:AC :=
 .seq (.reg []
 [o 2 .box [.t 0],
 o 3 .box [.t 1],
 o 4 .mov [.c (.bool false)]])
 (.seq (.reg [[],[0],[],[2,1],[1,3],[4,3],[5],[6,5],[5],[8,5],[7,9,5],[5,10],[11,5],[12],[13,12],[12],[15,12],[14,16,12],[12,17],[18,12],[19],[20,19],[19],[22,19],[21,23,19],[19,24],[25,19],[26],[27,26],[26],[29,26],[28,30,26,26],[26,31],[32,31,0,1,2,3,4,5,6,7,8,9,10,11,12,13,14,15,16,17,18,19,20,21,22,23,24,25,26,27,28,29,30,31,32]]
 [o 5 (.load (some 10)) [.t 2],
 o 6 (.call 72) [.t 5],
 o 7 (.load (some 10)) [.t 3],
 o 8 (.call 72) [.t 7],
 o 9 (.bin .eql (.flat [.int .i64,.int .i64,.int .i64,.int .i64,.int .i64,.int .i64])) [.t 6,.t 8],
 o 10 .mov [.t 9],
 ⟨some 11,some (10,true),.fldA 4,[.t 2]⟩,
 ⟨some 12,some (10,true),.load none,[.t 11]⟩,
 ⟨some 13,some (10,true),.fldA 4,[.t 3]⟩,
 ⟨some 14,some (10,true),.load none,[.t 13]⟩,
 ⟨some 15,some (10,true),.bin .eql .scal,[.t 12,.t 14]⟩,
 o 16 .pick [.t 10,.t 15,.c (.bool false)],
 o 17 .mov [.t 16],
 ⟨some 18,some (17,true),.fldA 5,[.t 2]⟩,
 ⟨some 19,some (17,true),.load none,[.t 18]⟩,
 ⟨some 20,some (17,true),.fldA 5,[.t 3]⟩,
 ⟨some 21,some (17,true),.load none,[.t 20]⟩,
 ⟨some 22,some (17,true),.bin .eql .scal,[.t 19,.t 21]⟩,
 o 23 .pick [.t 17,.t 22,.c (.bool false)],
 o 24 .mov [.t 23],
 ⟨some 25,some (24,true),.fldA 6,[.t 2]⟩,
 ⟨some 26,some (24,true),.load none,[.t 25]⟩,
 ⟨some 27,some (24,true),.fldA 6,[.t 3]⟩,
 ⟨some 28,some (24,true),.load none,[.t 27]⟩,
 ⟨some 29,some (24,true),.bin .eql .scal,[.t 26,.t 28]⟩,
 o 30 .pick [.t 24,.t 29,.c (.bool false)],
 o 31 .mov [.t 30],
 ⟨some 32,some (31,true),.fldA 9,[.t 2]⟩,
 ⟨some 33,some (31,true),.load none,[.t 32]⟩,
 ⟨some 34,some (31,true),.fldA 9,[.t 3]⟩,
 ⟨some 35,some (31,true),.load none,[.t 34]⟩,
 ⟨some 36,some (31,true),.call 73,[.t 33,.t 35]⟩,
 o 37 .pick [.t 31,.t 36,.c (.bool false)],
 o 4 .mov [.t 37]])
 .ret)
theorem i29:fnInfo Tryz.prog 29 = some (38,[.t 4],ac29):=by kernel_rfl
def ac30_1:AC :=
 .seq (.seq (.reg []
 [o 6 .mov [.t 4],
 o 7 (.fldA 9) [.t 1],
 o 8 (.load none) [.t 7],
 o 9 .lenL [.t 8],
 o 10 (.bin .lss .scal) [.t 6,.t 9]])
 (.cond (.t 10)
 .skip
 (.exit 0)))
 (.seq (.block 1 (.reg [[],[],[1],[],[2,3],[4],[5],[],[7],[],[8,9],[10],[11],[6,12],[13],[0,14],[15,15,0,1,2,3,4,5,6,7,8,9,10,11,12,13,14,15]]
 [o 13 .mov [.t 3],
 o 14 (.fldA 9) [.t 1],
 o 15 (.load none) [.t 14],
 o 16 .mov [.t 4],
 o 17 (.idxA 2) [.t 15,.t 16],
 o 18 (.fldA 0) [.t 17],
 o 19 (.load none) [.t 18],
 o 20 (.fldA 9) [.t 1],
 o 21 (.load none) [.t 20],
 o 22 .mov [.t 4],
 o 23 (.idxA 2) [.t 21,.t 22],
 o 24 (.fldA 1) [.t 23],
 o 25 (.load none) [.t 24],
 o 26 (.build [.int .i64 0,.int .u32 0] [(0,1),(1,1)]) [.t 19,.t 25],
 o 27 (.bslice 2 147) [.t 26],
 o 28 (.append 2 147 16) [.t 13,.t 27],
 o 3 .mov [.t 28]]))
 (.reg []
 [o 11 .mov [.t 4],
 o 12 (.bin .add .scal) [.t 11,.c (.int .i64 1)],
 o 4 .mov [.t 12]]))
def ac30:AC :=
 .seq (.reg []
 [o 1 .box [.t 0],
 o 2 (.alloc [.int .u32 0,.int .i64 0,.int .i64 0,.int .i64 0,.int .i64 0,.int .i64 0,.int .u32 0,.bool false,.int .i64 0,.nils]) []])
 (.seq (.reg []
 [o 5 (.bslice 2 147) [],
 o 3 .mov [.t 5]])
 (.seq (.seq (.reg []
 [o 4 .mov [.c (.int .i64 0)]])
 (.block 0 (.loop ac30_1)))
 (.seq (.reg []
 [o 29 (.fldA 0) [.t 1],
 o 30 (.load (some 2)) [.t 29],
 o 31 (.fldA 2) [.t 1],
 o 32 (.load none) [.t 31],
 o 33 (.fldA 3) [.t 1],
 o 34 (.load none) [.t 33],
 o 35 (.fldA 4) [.t 1],
 o 36 (.load none) [.t 35],
 o 37 (.fldA 5) [.t 1],
 o 38 (.load none) [.t 37],
 o 39 (.fldA 6) [.t 1],
 o 40 (.load none) [.t 39],
 o 41 (.fldA 7) [.t 1],
 o 42 (.load none) [.t 41],
 o 43 (.fldA 8) [.t 1],
 o 44 (.load none) [.t 43],
 o 45 .mov [.t 3],
 o 46 (.build [.int .u32 0,.int .i64 0,.int .i64 0,.int .i64 0,.int .i64 0,.int .i64 0,.int .u32 0,.bool false,.int .i64 0,.nils] [(0,2),(2,1),(3,1),(4,1),(5,1),(6,1),(7,1),(8,1),(9,1)]) [.t 30,.t 32,.t 34,.t 36,.t 38,.t 40,.t 42,.t 44,.t 45],
 ⟨none,none,.store 10,[.t 2,.t 46]⟩])
 .ret)))
theorem i30:fnInfo Tryz.prog 30 = some (47,[.c 2 (some 10)],ac30):=by kernel_rfl
def ac31:AC :=
 .seq (.reg []
 [o 3 .box [.t 0],
 o 5 .box [.t 2],
 o 6 (.alloc [.nils,.nils,.nils,.nils,.bool false]) [],
 o 7 .mov [.c (.int .i64 0)]])
 (.seq (.seq (.reg []
 [o 10 (.load (some 5)) [.t 3],
 o 11 .mov [.t 1],
 o 12 (.call 64) [.t 10,.t 11],
 o 13 .unNot [.t 12],
 o 14 .mov [.t 13],
 ⟨some 15,some (14,false),.fldA 7,[.t 5]⟩,
 ⟨some 16,some (14,false),.load none,[.t 15]⟩,
 o 17 .pick [.t 14,.c (.bool true),.t 16]])
 (.cond (.t 17)
 (.seq (.reg []
 [o 18 (.load (some 5)) [.t 3],
 ⟨none,none,.store 5,[.t 6,.t 18]⟩,
 o 7 .mov [.c (.int .i64 1)]])
 .ret)
 .skip))
 (.seq (.reg [[],[0],[],[1,2],[3],[],[4,5],[6],[7],[7],[],[10,8,6,0,1,2,3,4,5,6,7,8,10],[9,11,0,1,2,3,4,5,6,7,8,9,10,11]]
 [o 20 (.fldA 0) [.t 3],
 o 21 (.load none) [.t 20],
 o 22 .mov [.t 1],
 o 23 (.idxA 1) [.t 21,.t 22],
 o 24 (.load (some 1)) [.t 23],
 o 25 (.load (some 10)) [.t 5],
 o 26 (.call 74) [.t 24,.t 25],
 o 19 .mov [.t 26],
 o 27 (.ext 0) [.t 19],
 o 28 (.ext 1) [.t 19],
 o 8 (.alloc [.nils]) [],
 ⟨none,none,.store 1,[.t 8,.t 27]⟩,
 o 9 .mov [.t 28]])
 (.seq (.seq (.reg []
 [o 29 .mov [.t 9],
 o 30 .unNot [.t 29]])
 (.cond (.t 30)
 (.seq (.reg []
 [o 31 (.load (some 5)) [.t 3],
 ⟨none,none,.store 5,[.t 6,.t 31]⟩,
 o 7 .mov [.c (.int .i64 6)]])
 .ret)
 .skip))
 (.seq (.reg []
 [o 32 (.load (some 5)) [.t 3],
 o 33 .mov [.t 1],
 o 34 (.load (some 1)) [.t 8],
 o 35 (.load (some 10)) [.t 5],
 o 36 (.call 69) [.t 32,.t 33,.t 34,.t 35],
 ⟨none,none,.store 5,[.t 6,.t 36]⟩,
 o 7 .mov [.c (.int .i64 0)]])
 .ret))))
theorem i31:fnInfo Tryz.prog 31 = some (37,[.c 6 (some 5),.t 7],ac31):=by kernel_rfl
def ac32_1:AC :=
 .seq (.reg []
 [o 49 (.bin .lss .scal) [.t 48,.t 47]])
 (.seq (.cond (.t 49)
 .skip
 (.exit 0))
 (.seq (.block 1 (.seq (.reg []
 [o 50 (.idxA 10) [.t 46,.t 48],
 o 51 (.load (some 10)) [.t 50],
 o 9 (.alloc [.int .u32 0,.int .i64 0,.int .i64 0,.int .i64 0,.int .i64 0,.int .i64 0,.int .u32 0,.bool false,.int .i64 0,.nils]) [],
 ⟨none,none,.store 10,[.t 9,.t 51]⟩])
 (.seq (.reg []
 [o 52 (.load (some 10)) [.t 9],
 o 53 (.fldA 0) [.t 6],
 o 54 (.load none) [.t 53],
 o 55 (.call 46) [.t 52,.t 54]])
 (.cond (.t 55)
 (.reg []
 [o 56 .mov [.t 7],
 o 57 (.fldA 1) [.t 6],
 o 58 (.load none) [.t 57],
 o 59 (.fldA 0) [.t 9],
 o 60 (.load (some 2)) [.t 59],
 o 61 (.call 68) [.t 56,.t 58,.t 60]])
 .skip))))
 (.reg []
 [o 62 (.bin .add .scal) [.t 48,.c (.int .i64 1)],
 o 48 .mov [.t 62]])))
def ac32:AC :=
 .seq (.reg []
 [o 2 .box [.t 0],
 o 4 (.alloc [.nils,.nils,.nils,.nils,.bool false]) [],
 o 5 .mov [.c (.int .i64 0)]])
 (.seq (.seq (.reg []
 [o 10 .mov [.t 1],
 o 11 (.bin .lss .scal) [.t 10,.c (.int .i64 0)],
 o 12 .mov [.t 11],
 ⟨some 13,some (12,false),.mov,[.t 1]⟩,
 ⟨some 14,some (12,false),.fldA 2,[.t 2]⟩,
 ⟨some 15,some (12,false),.load none,[.t 14]⟩,
 ⟨some 16,some (12,false),.lenL,[.t 15]⟩,
 ⟨some 17,some (12,false),.bin .geq .scal,[.t 13,.t 16]⟩,
 o 18 .pick [.t 12,.c (.bool true),.t 17]])
 (.cond (.t 18)
 (.seq (.reg []
 [o 19 (.load (some 5)) [.t 2],
 ⟨none,none,.store 5,[.t 4,.t 19]⟩,
 o 5 .mov [.c (.int .i64 6)]])
 .ret)
 .skip))
 (.seq (.reg [[],[0],[],[1,2],[3],[],[5],[],[7,4,6,0,1,2,3,4,7],[6,8,0,1,2,3,4,5,6,7,8]]
 [o 20 (.fldA 2) [.t 2],
 o 21 (.load none) [.t 20],
 o 22 .mov [.t 1],
 o 23 (.idxA 3) [.t 21,.t 22],
 o 24 (.load (some 3)) [.t 23],
 o 25 (.load (some 5)) [.t 2],
 o 26 (.call 41) [.t 25],
 o 6 (.alloc [.int .i64 0,.int .i64 0,.nils]) [],
 ⟨none,none,.store 3,[.t 6,.t 24]⟩,
 o 7 .mov [.t 26]])
 (.seq (.reg []
 [o 27 .mov [.t 7],
 o 28 .mov [.t 7],
 o 29 .nilchk [.t 28],
 o 30 (.fldA 2) [.t 29],
 o 31 (.load none) [.t 30],
 o 32 .mov [.t 1],
 o 33 .mov [.t 1],
 o 34 (.bin .add .scal) [.t 33,.c (.int .i64 1)],
 o 35 (.call 75) [.t 31,.t 32,.t 34],
 o 36 .nilchk [.t 27],
 o 37 (.fldA 2) [.t 36],
 ⟨none,none,.store 1,[.t 37,.t 35]⟩])
 (.seq (.seq (.reg [[],[0],[1],[2],[],[4],[3,5],[6],[7],[8],[]]
 [o 38 .mov [.t 7],
 o 39 .nilchk [.t 38],
 o 40 (.fldA 0) [.t 39],
 o 41 (.load none) [.t 40],
 o 42 (.fldA 1) [.t 6],
 o 43 (.load none) [.t 42],
 o 44 (.idxA 1) [.t 41,.t 43],
 o 45 (.fldA 0) [.t 44],
 o 46 (.load none) [.t 45],
 o 47 .lenL [.t 46],
 o 48 .mov [.c (.int .i64 0)]])
 (.block 0 (.loop ac32_1)))
 (.seq (.reg [[],[0],[1],[2],[],[4],[],[6],[7],[8],[],[10],[9,11],[12],[],[13,14],[3,5,0,1,2,3,4,5,6,7,8,9,10,11,12,13,14,15],[16,15,15,0,1,2,3,4,5,6,7,8,9,10,11,12,13,14,15]]
 [o 63 .mov [.t 7],
 o 64 .nilchk [.t 63],
 o 65 (.fldA 0) [.t 64],
 o 66 (.load none) [.t 65],
 o 67 (.fldA 1) [.t 6],
 o 68 (.load none) [.t 67],
 o 69 .mov [.t 7],
 o 70 .nilchk [.t 69],
 o 71 (.fldA 0) [.t 70],
 o 72 (.load none) [.t 71],
 o 73 (.fldA 1) [.t 6],
 o 74 (.load none) [.t 73],
 o 75 (.idxA 1) [.t 72,.t 74],
 o 76 (.load (some 1)) [.t 75],
 o 77 (.mkfn 76 0) [.t 6],
 o 78 (.call 42) [.t 76,.t 77],
 o 79 (.idxA 1) [.t 66,.t 68],
 ⟨none,none,.store 1,[.t 79,.t 78]⟩])
 (.seq (.reg []
 [o 80 .mov [.t 7],
 o 81 .nilchk [.t 80],
 o 82 (.load (some 5)) [.t 81],
 ⟨none,none,.store 5,[.t 4,.t 82]⟩,
 o 5 .mov [.c (.int .i64 0)]])
 .ret))))))
theorem i32:fnInfo Tryz.prog 32 = some (83,[.c 4 (some 5),.t 5],ac32):=by kernel_rfl
def ac41:AC :=
 .seq (.reg []
 [o 1 .box [.t 0],
 o 2 .mov [.c .nilp]])
 (.seq (.reg [[],[0],[1],[2,2],[],[4],[5],[6,6],[],[8],[9],[],[11],[12,10],[],[14],[3,7,10,13,15],[16],[17,13,0,1,2,3,4,5,6,7,8,9,10,11,12,13,14,15,16,17]]
 [o 4 (.fldA 0) [.t 1],
 o 5 (.load none) [.t 4],
 o 6 .lenL [.t 5],
 o 7 (.mkslice 1 36 24 [.ro 10 []]) [.t 6,.t 6],
 o 8 (.fldA 1) [.t 1],
 o 9 (.load none) [.t 8],
 o 10 .lenL [.t 9],
 o 11 (.mkslice 1 34 24 [.ro 10 []]) [.t 10,.t 10],
 o 12 (.fldA 2) [.t 1],
 o 13 (.load none) [.t 12],
 o 14 (.call 82) [.t 13],
 o 15 (.fldA 3) [.t 1],
 o 16 (.load none) [.t 15],
 o 17 (.call 83) [.t 16],
 o 18 (.fldA 4) [.t 1],
 o 19 (.load none) [.t 18],
 o 20 (.build [.nils,.nils,.nils,.nils,.bool false] [(0,1),(1,1),(2,1),(3,1),(4,1)]) [.t 7,.t 11,.t 14,.t 17,.t 19],
 o 21 .box [.t 20],
 o 3 .mov [.t 21]])
 (.seq (.reg [[],[0],[1],[2],[],[4],[3,5]]
 [o 22 .mov [.t 3],
 o 23 .nilchk [.t 22],
 o 24 (.fldA 0) [.t 23],
 o 25 (.load none) [.t 24],
 o 26 (.fldA 0) [.t 1],
 o 27 (.load none) [.t 26],
 o 28 (.copy 1) [.t 25,.t 27]])
 (.seq (.reg [[],[0],[1],[2],[],[4],[3,5]]
 [o 29 .mov [.t 3],
 o 30 .nilchk [.t 29],
 o 31 (.fldA 1) [.t 30],
 o 32 (.load none) [.t 31],
 o 33 (.fldA 1) [.t 1],
 o 34 (.load none) [.t 33],
 o 35 (.copy 1) [.t 32,.t 34]])
 (.seq (.reg []
 [o 36 .mov [.t 3],
 o 2 .mov [.t 36]])
 .ret))))
theorem i41:fnInfo Tryz.prog 41 = some (37,[.t 2],ac41):=by kernel_rfl
def ac42:AC :=
 .seq (.reg []
 [o 2 .box [.t 0],
 o 4 (.alloc [.nils]) []])
 (.seq (.reg []
 [o 5 (.fldA 0) [.t 2],
 o 6 (.load none) [.t 5],
 o 7 (.call 85) [.t 6],
 o 8 .mov [.t 1],
 o 9 (.call 84) [.t 7,.t 8],
 o 10 (.build [.nils] [(0,1)]) [.t 9],
 ⟨none,none,.store 1,[.t 4,.t 10]⟩])
 .ret)
theorem i42:fnInfo Tryz.prog 42 = some (11,[.c 4 (some 1)],ac42):=by kernel_rfl
def ac46:AC :=
 .seq (.reg []
 [o 2 .box [.t 0],
 o 4 .mov [.c (.bool false)]])
 (.seq (.reg []
 [o 5 (.fldA 7) [.t 2],
 o 6 (.load none) [.t 5],
 o 7 .mov [.t 6],
 ⟨some 8,some (7,true),.fldA 8,[.t 2]⟩,
 ⟨some 9,some (7,true),.load none,[.t 8]⟩,
 ⟨some 10,some (7,true),.mov,[.t 1]⟩,
 ⟨some 11,some (7,true),.bin .eql .scal,[.t 9,.t 10]⟩,
 o 12 .pick [.t 7,.t 11,.c (.bool false)],
 o 4 .mov [.t 12]])
 .ret)
theorem i46:fnInfo Tryz.prog 46 = some (13,[.t 4],ac46):=by kernel_rfl
def ac47:AC :=
 .seq (.reg []
 [o 2 .box [.t 0],
 o 3 .box [.t 1],
 o 4 (.alloc [.int .u32 0,.int .i64 0,.int .i64 0,.int .i64 0,.int .i64 0,.int .i64 0,.int .u32 0,.bool false,.int .i64 0,.nils]) [],
 o 5 .mov [.c (.bool false)]])
 (.seq (.reg []
 [o 10 (.fldA 0) [.t 3],
 o 11 (.load (some 2)) [.t 10],
 o 12 (.fldA 2) [.t 3],
 o 13 (.load none) [.t 12],
 o 14 (.fldA 5) [.t 3],
 o 15 (.load none) [.t 14],
 o 16 (.minmax false) [.t 15,.c (.int .i64 16777215)],
 o 17 (.fldA 6) [.t 3],
 o 18 (.load none) [.t 17],
 o 19 (.build [.int .u32 0,.int .i64 0,.int .i64 0,.int .i64 0,.int .u32 0] [(0,2),(2,1),(3,1),(4,1)]) [.t 11,.t 13,.t 16,.t 18],
 o 6 (.alloc [.int .u32 0,.int .i64 0,.int .i64 0,.int .i64 0,.int .u32 0]) [],
 ⟨none,none,.store 5,[.t 6,.t 19]⟩])
 (.seq (.seq (.reg []
 [o 21 (.fldA 2) [.t 2],
 o 22 (.load none) [.t 21],
 o 23 (.load (some 5)) [.t 6],
 o 24 (.call 88) [.t 22,.t 23],
 o 20 .mov [.t 24],
 o 25 (.ext 0) [.t 20],
 o 26 (.ext 1) [.t 20],
 o 27 (.ext 2) [.t 20],
 o 7 (.alloc [.int .u32 0,.int .i64 0,.int .i64 0,.int .i64 0,.int .u32 0]) [],
 ⟨none,none,.store 5,[.t 7,.t 25]⟩,
 o 8 .mov [.t 26],
 o 9 .mov [.t 27]])
 (.seq (.reg []
 [o 28 (.fldA 7) [.t 3],
 o 29 (.load none) [.t 28],
 o 30 .mov [.t 29],
 ⟨some 31,some (30,false),.mov,[.t 8]⟩,
 ⟨some 32,some (30,false),.unNot,[.t 31]⟩,
 o 33 .pick [.t 30,.c (.bool true),.t 32]])
 (.cond (.t 33)
 (.seq (.reg []
 [o 34 (.build [.int .u32 0,.int .i64 0,.int .i64 0,.int .i64 0,.int .i64 0,.int .i64 0,.int .u32 0,.bool false,.int .i64 0,.nils] []) [],
 ⟨none,none,.store 10,[.t 4,.t 34]⟩,
 o 5 .mov [.c (.bool false)]])
 .ret)
 .skip)))
 (.seq (.reg [[],[0],[],[2],[0,1,2,3],[4,1,3,0,1,2,3]]
 [o 35 (.fldA 0) [.t 2],
 o 36 (.load none) [.t 35],
 o 37 (.fldA 7) [.t 3],
 ⟨none,none,.store 1,[.t 37,.c (.bool true)]⟩,
 o 38 (.fldA 8) [.t 3],
 ⟨none,none,.store 1,[.t 38,.t 36]⟩])
 (.seq (.reg []
 [o 39 (.load (some 10)) [.t 3],
 ⟨none,none,.store 10,[.t 4,.t 39]⟩,
 o 5 .mov [.c (.bool true)]])
 .ret))))
theorem i47:fnInfo Tryz.prog 47 = some (40,[.c 4 (some 10),.t 5],ac47):=by kernel_rfl
def ac48:AC :=
 .seq (.reg []
 [o 2 .box [.t 0],
 o 3 .box [.t 1],
 o 4 (.alloc [.nils]) [],
 o 5 .mov [.c (.int .i64 0)]])
 (.seq (.seq (.reg []
 [o 9 (.load (some 10)) [.t 3],
 o 10 (.call 89) [.t 9],
 o 11 .unNot [.t 10]])
 (.cond (.t 11)
 (.seq (.reg []
 [o 12 (.load (some 1)) [.t 2],
 ⟨none,none,.store 1,[.t 4,.t 12]⟩,
 o 5 .mov [.c (.int .i64 1)]])
 .ret)
 .skip))
 (.seq (.reg []
 [o 14 (.fldA 0) [.t 2],
 o 15 (.load none) [.t 14],
 o 16 (.load (some 10)) [.t 3],
 o 17 (.call 90) [.t 15,.t 16,.f 91],
 o 13 .mov [.t 17],
 o 18 (.ext 0) [.t 13],
 o 19 (.ext 1) [.t 13],
 o 6 .mov [.t 18],
 o 7 .mov [.t 19]])
 (.seq (.reg []
 [o 20 (.fldA 0) [.t 2],
 o 21 (.load none) [.t 20],
 o 22 (.call 85) [.t 21],
 o 8 .mov [.t 22]])
 (.seq (.block 0 (.seq (.reg []
 [o 29 .mov [.t 7],
 o 28 .mov [.t 29]])
 (.cond (.t 28)
 (.reg []
 [o 30 .mov [.t 8],
 o 31 .mov [.t 6],
 o 32 (.load (some 10)) [.t 3],
 o 33 (.idxA 10) [.t 30,.t 31],
 ⟨none,none,.store 10,[.t 33,.t 32]⟩])
 (.seq (.reg []
 [o 35 .mov [.t 8],
 o 36 .lenL [.t 35],
 o 37 (.bin .geq .scal) [.t 36,.c (.int .i64 500)],
 o 34 .mov [.t 37]])
 (.cond (.t 34)
 (.seq (.reg []
 [o 38 (.load (some 1)) [.t 2],
 ⟨none,none,.store 1,[.t 4,.t 38]⟩,
 o 5 .mov [.c (.int .i64 8)]])
 .ret)
 (.reg []
 [o 23 .mov [.t 8],
 o 24 .mov [.t 6],
 o 25 (.load (some 10)) [.t 3],
 o 26 (.bslice 10 42) [.t 25],
 o 27 (.call 92) [.t 23,.t 24,.t 26],
 o 8 .mov [.t 27]]))))))
 (.seq (.reg []
 [o 39 .mov [.t 8],
 o 40 (.build [.nils] [(0,1)]) [.t 39],
 ⟨none,none,.store 1,[.t 4,.t 40]⟩,
 o 5 .mov [.c (.int .i64 0)]])
 .ret)))))
theorem i48:fnInfo Tryz.prog 48 = some (41,[.c 4 (some 1),.t 5],ac48):=by kernel_rfl
def ac56_1:AC :=
 .seq (.reg []
 [o 18 (.bin .lss .scal) [.t 17,.t 16]])
 (.seq (.cond (.t 18)
 .skip
 (.exit 0))
 (.seq (.block 1 (.seq (.reg []
 [o 19 .mov [.t 17],
 o 20 (.idxA 10) [.t 15,.t 17],
 o 21 (.load (some 10)) [.t 20],
 o 8 (.alloc [.int .u32 0,.int .i64 0,.int .i64 0,.int .i64 0,.int .i64 0,.int .i64 0,.int .u32 0,.bool false,.int .i64 0,.nils]) [],
 o 7 .mov [.t 19],
 ⟨none,none,.store 10,[.t 8,.t 21]⟩])
 (.seq (.reg []
 [o 22 .mov [.t 1],
 o 23 .mov [.t 7],
 o 24 (.idxA 10) [.t 22,.t 23],
 o 25 (.load (some 10)) [.t 24],
 o 9 (.alloc [.int .u32 0,.int .i64 0,.int .i64 0,.int .i64 0,.int .i64 0,.int .i64 0,.int .u32 0,.bool false,.int .i64 0,.nils]) [],
 ⟨none,none,.store 10,[.t 9,.t 25]⟩])
 (.seq (.reg []
 [o 26 .mov [.t 2],
 o 27 (.load (some 10)) [.t 8],
 o 28 (.load (some 10)) [.t 9],
 o 29 .callv [.t 26,.t 27,.t 28],
 o 30 .unNot [.t 29]])
 (.cond (.t 30)
 (.seq (.reg []
 [o 6 .mov [.c (.bool false)]])
 .ret)
 .skip)))))
 (.reg []
 [o 31 (.bin .add .scal) [.t 17,.c (.int .i64 1)],
 o 17 .mov [.t 31]])))
def ac56:AC :=
 .seq (.reg []
 [o 6 .mov [.c (.bool false)]])
 (.seq (.seq (.reg []
 [o 10 .mov [.t 0],
 o 11 .lenL [.t 10],
 o 12 .mov [.t 1],
 o 13 .lenL [.t 12],
 o 14 (.bin .neq .scal) [.t 11,.t 13]])
 (.cond (.t 14)
 (.seq (.reg []
 [o 6 .mov [.c (.bool false)]])
 .ret)
 .skip))
 (.seq (.seq (.reg []
 [o 15 .mov [.t 0],
 o 16 .lenL [.t 15],
 o 17 .mov [.c (.int .i64 0)]])
 (.block 0 (.loop ac56_1)))
 (.seq (.reg []
 [o 6 .mov [.c (.bool true)]])
 .ret)))
theorem i56:fnInfo Tryz.prog 56 = some (32,[.t 6],ac56):=by kernel_rfl
def ac57:AC :=
 .seq (.reg []
 [o 2 .box [.t 0],
 o 3 .box [.t 1],
 o 4 .mov [.c (.bool false)]])
 (.seq (.reg []
 [o 7 (.fldA 9) [.t 2],
 o 8 (.load none) [.t 7],
 o 9 (.fldA 9) [.t 3],
 o 10 (.load none) [.t 9],
 o 11 (.call 97) [.t 8,.t 10],
 o 5 .mov [.t 11]])
 (.seq (.reg []
 [o 12 (.fldA 9) [.t 2],
 ⟨none,none,.store 1,[.t 12,.c .nils]⟩,
 o 13 (.fldA 9) [.t 3],
 ⟨none,none,.store 1,[.t 13,.c .nils]⟩])
 (.seq (.reg []
 [o 14 (.fldA 0) [.t 2],
 o 15 (.load (some 2)) [.t 14],
 o 16 (.fldA 0) [.t 3],
 o 17 (.load (some 2)) [.t 16],
 o 18 (.bin .eql (.flat [.int .u32,.int .i64])) [.t 15,.t 17],
 o 19 .mov [.t 18],
 ⟨some 20,some (19,true),.fldA 2,[.t 2]⟩,
 ⟨some 21,some (19,true),.load none,[.t 20]⟩,
 ⟨some 22,some (19,true),.fldA 2,[.t 3]⟩,
 ⟨some 23,some (19,true),.load none,[.t 22]⟩,
 ⟨some 24,some (19,true),.bin .eql .scal,[.t 21,.t 23]⟩,
 o 25 .pick [.t 19,.t 24,.c (.bool false)],
 o 26 .mov [.t 25],
 ⟨some 27,some (26,true),.fldA 3,[.t 2]⟩,
 ⟨some 28,some (26,true),.load none,[.t 27]⟩,
 ⟨some 29,some (26,true),.fldA 3,[.t 3]⟩,
 ⟨some 30,some (26,true),.load none,[.t 29]⟩,
 ⟨some 31,some (26,true),.bin .eql .scal,[.t 28,.t 30]⟩,
 o 32 .pick [.t 26,.t 31,.c (.bool false)],
 o 33 .mov [.t 32],
 ⟨some 34,some (33,true),.fldA 4,[.t 2]⟩,
 ⟨some 35,some (33,true),.load none,[.t 34]⟩,
 ⟨some 36,some (33,true),.fldA 4,[.t 3]⟩,
 ⟨some 37,some (33,true),.load none,[.t 36]⟩,
 ⟨some 38,some (33,true),.bin .eql .scal,[.t 35,.t 37]⟩,
 o 39 .pick [.t 33,.t 38,.c (.bool false)],
 o 40 .mov [.t 39],
 ⟨some 41,some (40,true),.fldA 5,[.t 2]⟩,
 ⟨some 42,some (40,true),.load none,[.t 41]⟩,
 ⟨some 43,some (40,true),.fldA 5,[.t 3]⟩,
 ⟨some 44,some (40,true),.load none,[.t 43]⟩,
 ⟨some 45,some (40,true),.bin .eql .scal,[.t 42,.t 44]⟩,
 o 46 .pick [.t 40,.t 45,.c (.bool false)],
 o 47 .mov [.t 46],
 ⟨some 48,some (47,true),.fldA 6,[.t 2]⟩,
 ⟨some 49,some (47,true),.load none,[.t 48]⟩,
 ⟨some 50,some (47,true),.fldA 6,[.t 3]⟩,
 ⟨some 51,some (47,true),.load none,[.t 50]⟩,
 ⟨some 52,some (47,true),.bin .eql .scal,[.t 49,.t 51]⟩,
 o 53 .pick [.t 47,.t 52,.c (.bool false)],
 o 54 .mov [.t 53],
 ⟨some 55,some (54,true),.fldA 7,[.t 2]⟩,
 ⟨some 56,some (54,true),.load none,[.t 55]⟩,
 ⟨some 57,some (54,true),.fldA 7,[.t 3]⟩,
 ⟨some 58,some (54,true),.load none,[.t 57]⟩,
 ⟨some 59,some (54,true),.bin .eql .bool,[.t 56,.t 58]⟩,
 o 60 .pick [.t 54,.t 59,.c (.bool false)],
 o 61 .mov [.t 60],
 ⟨some 62,some (61,true),.fldA 8,[.t 2]⟩,
 ⟨some 63,some (61,true),.load none,[.t 62]⟩,
 ⟨some 64,some (61,true),.fldA 8,[.t 3]⟩,
 ⟨some 65,some (61,true),.load none,[.t 64]⟩,
 ⟨some 66,some (61,true),.bin .eql .scal,[.t 63,.t 65]⟩,
 o 67 .pick [.t 61,.t 66,.c (.bool false)],
 o 6 .mov [.t 67]])
 (.seq (.reg []
 [o 68 .mov [.t 5],
 o 69 .mov [.t 68],
 ⟨some 70,some (69,true),.mov,[.t 6]⟩,
 o 71 .pick [.t 69,.t 70,.c (.bool false)],
 o 4 .mov [.t 71]])
 .ret))))
theorem i57:fnInfo Tryz.prog 57 = some (72,[.t 4],ac57):=by kernel_rfl
def ac64:AC :=
 .seq (.reg []
 [o 2 .box [.t 0],
 o 4 .mov [.c (.bool false)]])
 (.seq (.reg []
 [o 5 .mov [.t 1],
 o 6 (.bin .geq .scal) [.t 5,.c (.int .i64 0)],
 o 7 .mov [.t 6],
 ⟨some 8,some (7,true),.mov,[.t 1]⟩,
 ⟨some 9,some (7,true),.fldA 0,[.t 2]⟩,
 ⟨some 10,some (7,true),.load none,[.t 9]⟩,
 ⟨some 11,some (7,true),.lenL,[.t 10]⟩,
 ⟨some 12,some (7,true),.bin .lss .scal,[.t 8,.t 11]⟩,
 o 13 .pick [.t 7,.t 12,.c (.bool false)],
 o 4 .mov [.t 13]])
 .ret)
theorem i64:fnInfo Tryz.prog 64 = some (14,[.t 4],ac64):=by kernel_rfl
def ac65:AC :=
 .seq (.reg []
 [o 2 .mov [.c (.bool false)]])
 (.seq (.reg []
 [o 3 .mov [.f 98]])
 (.seq (.reg []
 [o 4 .mov [.t 0],
 o 5 .mov [.t 3],
 o 6 (.call 100) [.t 4,.t 5],
 o 7 .unNot [.t 6],
 o 8 .mov [.t 7],
 ⟨some 9,some (8,true),.mov,[.t 0]⟩,
 ⟨some 10,some (8,true),.call 101,[.t 9,.f 102]⟩,
 o 11 .pick [.t 8,.t 10,.c (.bool false)],
 o 2 .mov [.t 11]])
 .ret))
theorem i65:fnInfo Tryz.prog 65 = some (12,[.t 2],ac65):=by kernel_rfl
def ac66:AC :=
 .seq (.reg []
 [o 4 .mov [.c (.bool false)]])
 (.seq (.reg []
 [o 5 .mov [.t 0],
 o 6 .mov [.t 1],
 o 7 (.call 103) [.t 5,.t 6],
 o 8 (.bin .geq .scal) [.t 7,.c (.int .i64 0)],
 o 4 .mov [.t 8]])
 .ret)
theorem i66:fnInfo Tryz.prog 66 = some (9,[.t 4],ac66):=by kernel_rfl
def ac67:AC :=
 .seq (.reg []
 [o 3 .box [.t 0],
 o 4 .mov [.c (.bool false)]])
 (.seq (.reg []
 [o 5 (.fldA 0) [.t 3],
 o 6 (.load none) [.t 5],
 o 7 (.load none) [.t 1],
 o 8 (.bin .eql .scal) [.t 6,.t 7],
 o 9 .mov [.t 8],
 ⟨some 10,some (9,true),.fldA 1,[.t 3]⟩,
 ⟨some 11,some (9,true),.load none,[.t 10]⟩,
 ⟨some 12,some (9,true),.load none,[.t 2]⟩,
 ⟨some 13,some (9,true),.bin .eql .scal,[.t 11,.t 12]⟩,
 o 14 .pick [.t 9,.t 13,.c (.bool false)],
 o 4 .mov [.t 14]])
 .ret)
theorem i67:fnInfo Tryz.prog 67 = some (15,[.t 4],ac67):=by kernel_rfl
def ac68:AC :=
 .seq (.reg []
 [o 5 .box [.t 2]])
 (.seq (.reg []
 [o 9 .mov [.t 1],
 o 10 (.load (some 2)) [.t 5],
 o 11 (.build [.int .i64 0,.int .u32 0,.int .i64 0] [(0,1),(1,2)]) [.t 9,.t 10],
 o 6 (.alloc [.int .i64 0,.int .u32 0,.int .i64 0]) [],
 ⟨none,none,.store 3,[.t 6,.t 11]⟩])
 (.seq (.reg [[],[0],[1],[2],[],[3,4],[5],[6],[6],[7,5,0,1,2,3,4,5,6,7],[8,9,0,1,2,3,4,5,6,7,8,9]]
 [o 13 .mov [.t 0],
 o 14 .nilchk [.t 13],
 o 15 (.fldA 3) [.t 14],
 o 16 (.load none) [.t 15],
 o 17 (.load (some 3)) [.t 6],
 o 18 (.call 104) [.t 16,.t 17,.f 105],
 o 12 .mov [.t 18],
 o 19 (.ext 0) [.t 12],
 o 20 (.ext 1) [.t 12],
 o 7 .mov [.t 19],
 o 8 .mov [.t 20]])
 (.seq (.reg []
 [o 21 .mov [.t 8],
 o 22 .unNot [.t 21]])
 (.cond (.t 22)
 (.reg [[],[],[1],[2],[3],[],[],[6],[4,5,7],[0,0,1,2,3,4,5,6,7,8],[9,0,1,2,3,4,5,6,7,8],[10,8,8,0,1,2,3,4,5,6,7,8]]
 [o 23 .mov [.t 0],
 o 24 .mov [.t 0],
 o 25 .nilchk [.t 24],
 o 26 (.fldA 3) [.t 25],
 o 27 (.load none) [.t 26],
 o 28 .mov [.t 7],
 o 29 (.load (some 3)) [.t 6],
 o 30 (.bslice 3 108) [.t 29],
 o 31 (.call 106) [.t 27,.t 28,.t 30],
 o 32 .nilchk [.t 23],
 o 33 (.fldA 3) [.t 32],
 ⟨none,none,.store 1,[.t 33,.t 31]⟩])
 .skip))))
theorem i68:fnInfo Tryz.prog 68 = some (34,[],ac68):=by kernel_rfl
def ac69_1:AC :=
 .seq (.reg []
 [o 30 (.bin .lss .scal) [.t 29,.t 28]])
 (.seq (.cond (.t 30)
 .skip
 (.exit 0))
 (.seq (.block 1 (.seq (.reg []
 [o 31 (.idxA 10) [.t 27,.t 29],
 o 32 (.load (some 10)) [.t 31],
 o 11 (.alloc [.int .u32 0,.int .i64 0,.int .i64 0,.int .i64 0,.int .i64 0,.int .i64 0,.int .u32 0,.bool false,.int .i64 0,.nils]) [],
 ⟨none,none,.store 10,[.t 11,.t 32]⟩])
 (.seq (.reg []
 [o 33 (.fldA 2) [.t 7],
 o 34 (.load none) [.t 33],
 o 35 (.bin .eql .scal) [.t 34,.c (.int .i64 0)],
 o 36 .mov [.t 35],
 ⟨some 37,some (36,true),.fldA 2,[.t 11]⟩,
 ⟨some 38,some (36,true),.load none,[.t 37]⟩,
 ⟨some 39,some (36,true),.bin .eql .scal,[.t 38,.c (.int .i64 1)]⟩,
 o 40 .pick [.t 36,.t 39,.c (.bool false)],
 o 41 .mov [.t 40],
 ⟨some 42,some (41,true),.fldA 7,[.t 11]⟩,
 ⟨some 43,some (41,true),.load none,[.t 42]⟩,
 ⟨some 44,some (41,true),.unNot,[.t 43]⟩,
 o 45 .pick [.t 41,.t 44,.c (.bool false)]])
 (.cond (.t 45)
 (.reg []
 [o 46 .mov [.t 9],
 o 47 .mov [.t 1],
 o 48 (.fldA 0) [.t 11],
 o 49 (.load (some 2)) [.t 48],
 o 50 (.call 68) [.t 46,.t 47,.t 49]])
 .skip))))
 (.reg []
 [o 51 (.bin .add .scal) [.t 29,.c (.int .i64 1)],
 o 29 .mov [.t 51]])))
def ac69:AC :=
 .seq (.reg []
 [o 4 .box [.t 0],
 o 6 .box [.t 2],
 o 7 .box [.t 3],
 o 8 (.alloc [.nils,.nils,.nils,.nils,.bool false]) []])
 (.seq (.reg []
 [o 12 (.load (some 5)) [.t 4],
 o 13 (.call 41) [.t 12],
 o 9 .mov [.t 13]])
 (.seq (.reg [[],[0],[1],[2],[],[],[3,4,0,1,2,3,4,5],[6,5,0,1,2,3,4,5]]
 [o 14 .mov [.t 9],
 o 15 .nilchk [.t 14],
 o 16 (.fldA 0) [.t 15],
 o 17 (.load none) [.t 16],
 o 18 .mov [.t 1],
 o 19 (.load (some 1)) [.t 6],
 o 20 (.idxA 1) [.t 17,.t 18],
 ⟨none,none,.store 1,[.t 20,.t 19]⟩])
 (.seq (.reg []
 [o 21 .mov [.t 9],
 o 22 .mov [.t 1],
 o 23 (.fldA 0) [.t 7],
 o 24 (.load (some 2)) [.t 23],
 o 25 (.call 68) [.t 21,.t 22,.t 24]])
 (.seq (.seq (.reg []
 [o 26 (.fldA 0) [.t 6],
 o 27 (.load none) [.t 26],
 o 28 .lenL [.t 27],
 o 29 .mov [.c (.int .i64 0)]])
 (.block 0 (.loop ac69_1)))
 (.seq (.reg []
 [o 52 .mov [.t 9],
 o 53 .nilchk [.t 52],
 o 54 (.load (some 5)) [.t 53],
 ⟨none,none,.store 5,[.t 8,.t 54]⟩])
 .ret)))))
theorem i69:fnInfo Tryz.prog 69 = some (55,[.c 8 (some 5)],ac69):=by kernel_rfl
def ac70:AC :=
 .seq (.reg []
 [o 6 .mov [.c .nils]])
 (.seq (.reg []
 [o 8 .mov [.t 0],
 o 9 .mov [.t 1],
 o 10 .mov [.t 2],
 o 11 .mov [.t 0],
 o 12 .lenL [.t 11],
 o 13 (.slice3 3) [.t 8,.t 9,.t 10,.t 12]])
 (.seq (.seq (.reg []
 [o 14 .mov [.t 1],
 o 15 .mov [.t 2],
 o 16 (.bin .eql .scal) [.t 14,.t 15]])
 (.cond (.t 16)
 (.seq (.reg []
 [o 17 .mov [.t 0],
 o 6 .mov [.t 17]])
 .ret)
 .skip))
 (.seq (.reg []
 [o 18 .mov [.t 0],
 o 19 .lenL [.t 18],
 o 7 .mov [.t 19]])
 (.seq (.reg [[],[],[0,1],[],[],[3,4],[2,5],[6,6,0,1,2,3,4,5,6]]
 [o 20 .mov [.t 0],
 o 21 .mov [.t 1],
 o 22 (.slice 3 false true) [.t 20,.t 21],
 o 23 .mov [.t 0],
 o 24 .mov [.t 2],
 o 25 (.slice 3 true false) [.t 23,.t 24],
 o 26 (.append 3 108 24) [.t 22,.t 25],
 o 0 .mov [.t 26]])
 (.seq (.reg []
 [o 27 .mov [.t 0],
 o 28 .mov [.t 0],
 o 29 .lenL [.t 28],
 o 30 .mov [.t 7],
 o 31 (.slice 3 true true) [.t 27,.t 29,.t 30],
 ⟨none,none,.clear 3 [.int .i64 0,.int .u32 0,.int .i64 0],[.t 31]⟩])
 (.seq (.reg []
 [o 32 .mov [.t 0],
 o 6 .mov [.t 32]])
 .ret))))))
theorem i70:fnInfo Tryz.prog 70 = some (33,[.t 6],ac70):=by kernel_rfl
def ac71_1:AC :=
 .seq (.reg []
 [o 50 (.bin .lss .scal) [.t 49,.t 48]])
 (.seq (.cond (.t 50)
 .skip
 (.exit 0))
 (.seq (.block 1 (.seq (.reg []
 [o 51 (.idxA 3) [.t 47,.t 49],
 o 52 (.load (some 3)) [.t 51],
 o 9 (.alloc [.int .i64 0,.int .i64 0,.nils]) [],
 ⟨none,none,.store 3,[.t 9,.t 52]⟩])
 (.seq (.seq (.reg []
 [o 53 (.fldA 0) [.t 9],
 o 54 (.load none) [.t 53],
 o 55 (.load none) [.t 4],
 o 56 (.bin .neq .scal) [.t 54,.t 55]])
 (.cond (.t 56)
 (.exit 1)
 .skip))
 (.seq (.reg [[],[0],[1],[2],[],[4],[3,5],[6],[],[7,8],[],[10,9,9,0,1,2,3,4,5,6,7,8,9,10]]
 [o 57 .mov [.t 0],
 o 58 .nilchk [.t 57],
 o 59 (.fldA 0) [.t 58],
 o 60 (.load none) [.t 59],
 o 61 (.fldA 1) [.t 9],
 o 62 (.load none) [.t 61],
 o 63 (.idxA 1) [.t 60,.t 62],
 o 64 (.load (some 1)) [.t 63],
 o 65 (.mkfn 109 0) [.t 4,.t 5],
 o 66 (.call 42) [.t 64,.t 65],
 o 10 (.alloc [.nils]) [],
 ⟨none,none,.store 1,[.t 10,.t 66]⟩])
 (.seq (.seq (.reg []
 [o 68 (.load (some 3)) [.t 9],
 o 69 (.load (some 10)) [.t 6],
 o 70 (.call 47) [.t 68,.t 69],
 o 67 .mov [.t 70],
 o 71 (.ext 0) [.t 67],
 o 72 (.ext 1) [.t 67],
 o 11 (.alloc [.int .u32 0,.int .i64 0,.int .i64 0,.int .i64 0,.int .i64 0,.int .i64 0,.int .u32 0,.bool false,.int .i64 0,.nils]) [],
 ⟨none,none,.store 10,[.t 11,.t 71]⟩,
 o 12 .mov [.t 72]])
 (.seq (.reg []
 [o 73 .mov [.t 12],
 o 74 .mov [.t 73],
 ⟨some 75,some (74,true),.mov,[.t 7]⟩,
 o 76 .pick [.t 74,.t 75,.c (.bool false)]])
 (.cond (.t 76)
 (.seq (.reg []
 [o 78 (.load (some 1)) [.t 10],
 o 79 (.load (some 10)) [.t 11],
 o 80 (.call 48) [.t 78,.t 79],
 o 77 .mov [.t 80],
 o 81 (.ext 0) [.t 77],
 o 82 (.ext 1) [.t 77],
 o 13 (.alloc [.nils]) [],
 ⟨none,none,.store 1,[.t 13,.t 81]⟩,
 o 14 .mov [.t 82]])
 (.reg [[],[],[],[2],[3],[4],[5],[6],[7,6],[6,8],[1,6,1],[0,0,1,2,3,4,5,6,7,8,9,10],[11,0,1,2,3,4,5,6,7,8,9,10],[12,9,10,0,1,2,3,4,5,6,7,8,9,10]]
 [o 83 .mov [.t 0],
 o 84 (.load (some 1)) [.t 13],
 o 85 .mov [.t 0],
 o 86 .nilchk [.t 85],
 o 87 (.fldA 4) [.t 86],
 o 88 (.load none) [.t 87],
 o 89 .mov [.t 88],
 ⟨some 90,some (89,false),.mov,[.t 14]⟩,
 ⟨some 91,some (89,false),.bin .neq .scal,[.t 90,.c (.int .i64 0)]⟩,
 o 92 .pick [.t 89,.c (.bool true),.t 91],
 ⟨none,none,.store 1,[.t 10,.t 84]⟩,
 o 93 .nilchk [.t 83],
 o 94 (.fldA 4) [.t 93],
 ⟨none,none,.store 1,[.t 94,.t 92]⟩]))
 .skip)))
 (.seq (.reg [[],[0],[],[2],[3],[4],[],[6],[5,7],[8],[9],[1,10],[11]]
 [o 95 (.fldA 0) [.t 10],
 o 96 (.load none) [.t 95],
 o 97 .mov [.t 0],
 o 98 .nilchk [.t 97],
 o 99 (.fldA 0) [.t 98],
 o 100 (.load none) [.t 99],
 o 101 (.fldA 1) [.t 9],
 o 102 (.load none) [.t 101],
 o 103 (.idxA 1) [.t 100,.t 102],
 o 104 (.fldA 0) [.t 103],
 o 105 (.load none) [.t 104],
 o 106 (.call 56) [.t 96,.t 105,.f 57],
 o 107 .unNot [.t 106]])
 (.cond (.t 107)
 (.seq (.reg [[],[0],[1],[2],[],[4],[],[3,5,0,1,2,3,4,5,6],[7,6,0,1,2,3,4,5,6]]
 [o 108 .mov [.t 0],
 o 109 .nilchk [.t 108],
 o 110 (.fldA 0) [.t 109],
 o 111 (.load none) [.t 110],
 o 112 (.fldA 1) [.t 9],
 o 113 (.load none) [.t 112],
 o 114 (.load (some 1)) [.t 10],
 o 115 (.idxA 1) [.t 111,.t 113],
 ⟨none,none,.store 1,[.t 115,.t 114]⟩])
 (.reg []
 [o 116 .mov [.t 0],
 o 117 (.fldA 1) [.t 9],
 o 118 (.load none) [.t 117],
 o 119 (.load (some 2)) [.t 5],
 o 120 (.call 68) [.t 116,.t 118,.t 119]]))
 .skip)))))))
 (.reg []
 [o 121 (.bin .add .scal) [.t 49,.c (.int .i64 1)],
 o 49 .mov [.t 121]])))
def ac71:AC :=
 .seq (.reg []
 [o 4 .box [.t 1],
 o 5 .box [.t 2]])
 (.seq (.reg [[],[0],[1],[2],[],[3,4],[5],[],[6,7],[8],[9],[9],[],[12,10,8,0,1,2,3,4,5,6,7,8,9,10,12],[11,13,0,1,2,3,4,5,6,7,8,9,10,11,12,13]]
 [o 16 .mov [.t 0],
 o 17 .nilchk [.t 16],
 o 18 (.fldA 0) [.t 17],
 o 19 (.load none) [.t 18],
 o 20 (.load none) [.t 4],
 o 21 (.idxA 1) [.t 19,.t 20],
 o 22 (.load (some 1)) [.t 21],
 o 23 (.load (some 2)) [.t 5],
 o 24 (.call 107) [.t 22,.t 23],
 o 15 .mov [.t 24],
 o 25 (.ext 0) [.t 15],
 o 26 (.ext 1) [.t 15],
 o 6 (.alloc [.int .u32 0,.int .i64 0,.int .i64 0,.int .i64 0,.int .i64 0,.int .i64 0,.int .u32 0,.bool false,.int .i64 0,.nils]) [],
 ⟨none,none,.store 10,[.t 6,.t 25]⟩,
 o 7 .mov [.t 26]])
 (.seq (.reg [[],[0],[1],[2],[],[],[5],[6],[7],[],[8,9],[10],[],[],[],[11,12,13,14],[3,4,0,1,2,3,4,5,6,7,8,9,10,11,12,13,14,15],[16,15,15,0,1,2,3,4,5,6,7,8,9,10,11,12,13,14,15]]
 [o 27 .mov [.t 0],
 o 28 .nilchk [.t 27],
 o 29 (.fldA 1) [.t 28],
 o 30 (.load none) [.t 29],
 o 31 (.load none) [.t 4],
 o 32 .mov [.t 0],
 o 33 .nilchk [.t 32],
 o 34 (.fldA 1) [.t 33],
 o 35 (.load none) [.t 34],
 o 36 (.load none) [.t 4],
 o 37 (.idxA 1) [.t 35,.t 36],
 o 38 (.load none) [.t 37],
 o 39 (.load (some 2)) [.t 5],
 o 40 (.load (some 10)) [.t 6],
 o 41 .mov [.t 7],
 o 42 (.call 108) [.t 38,.t 39,.t 40,.t 41],
 o 43 (.idxA 1) [.t 30,.t 31],
 ⟨none,none,.store 1,[.t 43,.t 42]⟩])
 (.seq (.reg []
 [o 44 .mov [.t 0],
 o 45 .nilchk [.t 44],
 o 46 (.fldA 2) [.t 45],
 o 47 (.load none) [.t 46],
 o 48 .lenL [.t 47],
 o 49 .mov [.c (.int .i64 0)]])
 (.block 0 (.loop ac71_1)))))
theorem i71:fnInfo Tryz.prog 71 = some (122,[],ac71):=by kernel_rfl
def ac72:AC :=
 .seq (.reg []
 [o 1 .box [.t 0],
 o 2 (.alloc [.int .i64 0,.int .i64 0,.int .i64 0,.int .i64 0,.int .i64 0,.int .i64 0]) []])
 (.seq (.reg [[],[0],[1],[2],[],[4],[5],[],[7],[8],[],[10],[],[12],[],[14],[3,6,9,11,13,15],[16,9,0,1,2,3,4,5,6,7,8,9,10,11,12,13,14,15,16]]
 [o 3 (.fldA 0) [.t 1],
 o 4 (.fldA 0) [.t 3],
 o 5 (.load none) [.t 4],
 o 6 (.conv .i64) [.t 5],
 o 7 (.fldA 0) [.t 1],
 o 8 (.fldA 1) [.t 7],
 o 9 (.load none) [.t 8],
 o 10 (.fldA 7) [.t 1],
 o 11 (.load none) [.t 10],
 o 12 (.call 110) [.t 11],
 o 13 (.fldA 8) [.t 1],
 o 14 (.load none) [.t 13],
 o 15 (.fldA 2) [.t 1],
 o 16 (.load none) [.t 15],
 o 17 (.fldA 3) [.t 1],
 o 18 (.load none) [.t 17],
 o 19 (.build [.int .i64 0,.int .i64 0,.int .i64 0,.int .i64 0,.int .i64 0,.int .i64 0] [(0,1),(1,1),(2,1),(3,1),(4,1),(5,1)]) [.t 6,.t 9,.t 12,.t 14,.t 16,.t 18],
 ⟨none,none,.store 6,[.t 2,.t 19]⟩])
 .ret)
theorem i72:fnInfo Tryz.prog 72 = some (20,[.c 2 (some 6)],ac72):=by kernel_rfl
def ac73_1:AC :=
 .seq (.seq (.reg []
 [o 11 .mov [.t 5],
 o 12 .mov [.t 0],
 o 13 .lenL [.t 12],
 o 14 (.bin .lss .scal) [.t 11,.t 13]])
 (.cond (.t 14)
 .skip
 (.exit 0)))
 (.seq (.block 1 (.seq (.reg [[],[],[0,1],[2],[],[],[4,5],[6],[3,7]]
 [o 17 .mov [.t 0],
 o 18 .mov [.t 5],
 o 19 (.idxA 2) [.t 17,.t 18],
 o 20 (.load (some 2)) [.t 19],
 o 21 .mov [.t 1],
 o 22 .mov [.t 5],
 o 23 (.idxA 2) [.t 21,.t 22],
 o 24 (.load (some 2)) [.t 23],
 o 25 (.bin .neq (.flat [.int .i64,.int .u32])) [.t 20,.t 24]])
 (.cond (.t 25)
 (.seq (.reg []
 [o 4 .mov [.c (.bool false)]])
 .ret)
 .skip)))
 (.reg []
 [o 15 .mov [.t 5],
 o 16 (.bin .add .scal) [.t 15,.c (.int .i64 1)],
 o 5 .mov [.t 16]]))
def ac73:AC :=
 .seq (.reg []
 [o 4 .mov [.c (.bool false)]])
 (.seq (.seq (.reg []
 [o 6 .mov [.t 0],
 o 7 .lenL [.t 6],
 o 8 .mov [.t 1],
 o 9 .lenL [.t 8],
 o 10 (.bin .neq .scal) [.t 7,.t 9]])
 (.cond (.t 10)
 (.seq (.reg []
 [o 4 .mov [.c (.bool false)]])
 .ret)
 .skip))
 (.seq (.seq (.reg []
 [o 5 .mov [.c (.int .i64 0)]])
 (.block 0 (.loop ac73_1)))
 (.seq (.reg []
 [o 4 .mov [.c (.bool true)]])
 .ret)))
theorem i73:fnInfo Tryz.prog 73 = some (26,[.t 4],ac73):=by kernel_rfl
def ac74:AC :=
 .seq (.reg []
 [o 2 .box [.t 0],
 o 3 .box [.t 1],
 o 4 (.alloc [.nils]) [],
 o 5 .mov [.c (.bool false)]])
 (.seq (.reg []
 [o 9 (.fldA 0) [.t 2],
 o 10 (.load none) [.t 9],
 o 11 (.load (some 10)) [.t 3],
 o 12 (.call 90) [.t 10,.t 11,.f 91],
 o 8 .mov [.t 12],
 o 13 (.ext 0) [.t 8],
 o 14 (.ext 1) [.t 8],
 o 6 .mov [.t 13],
 o 7 .mov [.t 14]])
 (.seq (.seq (.reg []
 [o 15 .mov [.t 7],
 o 16 .unNot [.t 15]])
 (.cond (.t 16)
 (.seq (.reg []
 [o 17 (.load (some 1)) [.t 2],
 ⟨none,none,.store 1,[.t 4,.t 17]⟩,
 o 5 .mov [.c (.bool false)]])
 .ret)
 .skip))
 (.seq (.reg []
 [o 18 (.fldA 0) [.t 2],
 o 19 (.load none) [.t 18],
 o 20 (.call 85) [.t 19],
 o 21 .mov [.t 6],
 o 22 .mov [.t 6],
 o 23 (.bin .add .scal) [.t 22,.c (.int .i64 1)],
 o 24 (.call 111) [.t 20,.t 21,.t 23],
 o 25 (.build [.nils] [(0,1)]) [.t 24],
 ⟨none,none,.store 1,[.t 4,.t 25]⟩,
 o 5 .mov [.c (.bool true)]])
 .ret)))
theorem i74:fnInfo Tryz.prog 74 = some (26,[.c 4 (some 1),.t 5],ac74):=by kernel_rfl
def ac75:AC :=
 .seq (.reg []
 [o 6 .mov [.c .nils]])
 (.seq (.reg []
 [o 8 .mov [.t 0],
 o 9 .mov [.t 1],
 o 10 .mov [.t 2],
 o 11 .mov [.t 0],
 o 12 .lenL [.t 11],
 o 13 (.slice3 3) [.t 8,.t 9,.t 10,.t 12]])
 (.seq (.seq (.reg []
 [o 14 .mov [.t 1],
 o 15 .mov [.t 2],
 o 16 (.bin .eql .scal) [.t 14,.t 15]])
 (.cond (.t 16)
 (.seq (.reg []
 [o 17 .mov [.t 0],
 o 6 .mov [.t 17]])
 .ret)
 .skip))
 (.seq (.reg []
 [o 18 .mov [.t 0],
 o 19 .lenL [.t 18],
 o 7 .mov [.t 19]])
 (.seq (.reg [[],[],[0,1],[],[],[3,4],[2,5],[6,6,0,1,2,3,4,5,6]]
 [o 20 .mov [.t 0],
 o 21 .mov [.t 1],
 o 22 (.slice 3 false true) [.t 20,.t 21],
 o 23 .mov [.t 0],
 o 24 .mov [.t 2],
 o 25 (.slice 3 true false) [.t 23,.t 24],
 o 26 (.append 3 84 40) [.t 22,.t 25],
 o 0 .mov [.t 26]])
 (.seq (.reg []
 [o 27 .mov [.t 0],
 o 28 .mov [.t 0],
 o 29 .lenL [.t 28],
 o 30 .mov [.t 7],
 o 31 (.slice 3 true true) [.t 27,.t 29,.t 30],
 ⟨none,none,.clear 3 [.int .i64 0,.int .i64 0,.ro 12 []],[.t 31]⟩])
 (.seq (.reg []
 [o 32 .mov [.t 0],
 o 6 .mov [.t 32]])
 .ret))))))
theorem i75:fnInfo Tryz.prog 75 = some (33,[.t 6],ac75):=by kernel_rfl
def ac76:AC :=
 .seq (.reg []
 [o 2 .box [.t 0],
 o 3 .mov [.c (.bool false)]])
 (.seq (.reg []
 [o 4 (.load (some 10)) [.t 2],
 o 5 (.fldA 0) [.t 1],
 o 6 (.load none) [.t 5],
 o 7 (.call 46) [.t 4,.t 6],
 o 3 .mov [.t 7]])
 .ret)
theorem i76:fnInfo Tryz.prog 76 = some (8,[.t 3],ac76):=by kernel_rfl
def ac82:AC :=
 .seq (.reg []
 [o 2 .mov [.c .nils]])
 (.seq (.seq (.reg []
 [o 3 .mov [.t 0],
 o 4 (.bin .eql .sl) [.t 3,.c .nils]])
 (.cond (.t 4)
 (.seq (.reg []
 [o 2 .mov [.c .nils]])
 .ret)
 .skip))
 (.seq (.reg []
 [o 5 (.bslice 3 84) [],
 o 6 .mov [.t 0],
 o 7 (.append 3 84 40) [.t 5,.t 6],
 o 2 .mov [.t 7]])
 .ret))
theorem i82:fnInfo Tryz.prog 82 = some (8,[.t 2],ac82):=by kernel_rfl
def ac83:AC :=
 .seq (.reg []
 [o 2 .mov [.c .nils]])
 (.seq (.seq (.reg []
 [o 3 .mov [.t 0],
 o 4 (.bin .eql .sl) [.t 3,.c .nils]])
 (.cond (.t 4)
 (.seq (.reg []
 [o 2 .mov [.c .nils]])
 .ret)
 .skip))
 (.seq (.reg []
 [o 5 (.bslice 3 108) [],
 o 6 .mov [.t 0],
 o 7 (.append 3 108 24) [.t 5,.t 6],
 o 2 .mov [.t 7]])
 .ret))
theorem i83:fnInfo Tryz.prog 83 = some (8,[.t 2],ac83):=by kernel_rfl
def ac84_1:AC :=
 .seq (.seq (.reg []
 [o 16 .mov [.t 6],
 o 17 .mov [.t 0],
 o 18 .lenL [.t 17],
 o 19 (.bin .lss .scal) [.t 16,.t 18]])
 (.cond (.t 19)
 .skip
 (.exit 0)))
 (.seq (.block 1 (.seq (.reg []
 [o 22 .mov [.t 0],
 o 23 .mov [.t 6],
 o 24 (.idxA 10) [.t 22,.t 23],
 o 25 (.load (some 10)) [.t 24],
 o 7 (.alloc [.int .u32 0,.int .i64 0,.int .i64 0,.int .i64 0,.int .i64 0,.int .i64 0,.int .u32 0,.bool false,.int .i64 0,.nils]) [],
 ⟨none,none,.store 10,[.t 7,.t 25]⟩])
 (.seq (.reg []
 [o 26 .mov [.t 1],
 o 27 (.load (some 10)) [.t 7],
 o 28 .callv [.t 26,.t 27],
 o 29 .unNot [.t 28]])
 (.cond (.t 29)
 (.seq (.reg []
 [o 30 .mov [.t 0],
 o 31 .mov [.t 5],
 o 32 (.load (some 10)) [.t 7],
 o 33 (.idxA 10) [.t 30,.t 31],
 ⟨none,none,.store 10,[.t 33,.t 32]⟩])
 (.reg []
 [o 34 .mov [.t 5],
 o 35 (.bin .add .scal) [.t 34,.c (.int .i64 1)],
 o 5 .mov [.t 35]]))
 .skip))))
 (.reg []
 [o 20 .mov [.t 6],
 o 21 (.bin .add .scal) [.t 20,.c (.int .i64 1)],
 o 6 .mov [.t 21]]))
def ac84:AC :=
 .seq (.reg []
 [o 4 .mov [.c .nils]])
 (.seq (.reg []
 [o 8 .mov [.t 0],
 o 9 .mov [.t 1],
 o 10 (.call 115) [.t 8,.t 9],
 o 5 .mov [.t 10]])
 (.seq (.seq (.reg []
 [o 11 .mov [.t 5],
 o 12 (.bin .eql .scal) [.t 11,.c (.int .i64 (-1))]])
 (.cond (.t 12)
 (.seq (.reg []
 [o 13 .mov [.t 0],
 o 4 .mov [.t 13]])
 .ret)
 .skip))
 (.seq (.seq (.reg []
 [o 14 .mov [.t 5],
 o 15 (.bin .add .scal) [.t 14,.c (.int .i64 1)],
 o 6 .mov [.t 15]])
 (.block 0 (.loop ac84_1)))
 (.seq (.reg []
 [o 36 .mov [.t 0],
 o 37 .mov [.t 5],
 o 38 (.slice 10 true false) [.t 36,.t 37],
 ⟨none,none,.clear 10 [.int .u32 0,.int .i64 0,.int .i64 0,.int .i64 0,.int .i64 0,.int .i64 0,.int .u32 0,.bool false,.int .i64 0,.ro 2 []],[.t 38]⟩])
 (.seq (.reg []
 [o 39 .mov [.t 0],
 o 40 .mov [.t 5],
 o 41 (.slice 10 false true) [.t 39,.t 40],
 o 4 .mov [.t 41]])
 .ret)))))
theorem i84:fnInfo Tryz.prog 84 = some (42,[.t 4],ac84):=by kernel_rfl
def ac85:AC :=
 .seq (.reg []
 [o 2 .mov [.c .nils]])
 (.seq (.seq (.reg []
 [o 3 .mov [.t 0],
 o 4 (.bin .eql .sl) [.t 3,.c .nils]])
 (.cond (.t 4)
 (.seq (.reg []
 [o 2 .mov [.c .nils]])
 .ret)
 .skip))
 (.seq (.reg []
 [o 5 (.bslice 10 42) [],
 o 6 .mov [.t 0],
 o 7 (.append 10 42 88) [.t 5,.t 6],
 o 2 .mov [.t 7]])
 .ret))
theorem i85:fnInfo Tryz.prog 85 = some (8,[.t 2],ac85):=by kernel_rfl
def ac86:AC :=
 .seq (.reg []
 [o 1 .box [.t 0],
 o 2 .mov [.c .nilf]])
 (.seq (.reg []
 [o 3 (.mkfn 116 0) [.t 1],
 o 2 .mov [.t 3]])
 .ret)
theorem i86:fnInfo Tryz.prog 86 = some (4,[.t 2],ac86):=by kernel_rfl
def ac87:AC :=
 .seq (.reg []
 [o 2 .box [.t 0],
 o 3 .box [.t 1],
 o 4 .mov [.c (.bool false)]])
 (.seq (.reg []
 [o 5 (.load (some 10)) [.t 2],
 o 6 (.load (some 10)) [.t 3],
 o 7 (.call 118) [.t 5,.t 6],
 o 8 (.bin .lss .scal) [.t 7,.c (.int .i64 0)],
 o 4 .mov [.t 8]])
 .ret)
theorem i87:fnInfo Tryz.prog 87 = some (9,[.t 4],ac87):=by kernel_rfl
def ac88:AC :=
 .seq (.reg []
 [o 3 .box [.t 1],
 o 4 (.alloc [.int .u32 0,.int .i64 0,.int .i64 0,.int .i64 0,.int .u32 0]) [],
 o 5 .mov [.c (.bool false)],
 o 6 .mov [.c (.int .i64 0)]])
 (.seq (.reg []
 [o 8 .mov [.t 0],
 o 9 (.mkfn 120 0) [.t 3],
 o 10 (.call 119) [.t 8,.t 9],
 o 7 .mov [.t 10]])
 (.seq (.block 0 (.seq (.reg []
 [o 12 .mov [.t 7],
 o 13 (.bin .lss .scal) [.t 12,.c (.int .i64 0)],
 o 11 .mov [.t 13]])
 (.cond (.t 11)
 (.seq (.reg []
 [o 14 (.build [.int .u32 0,.int .i64 0,.int .i64 0,.int .i64 0,.int .u32 0] []) [],
 ⟨none,none,.store 5,[.t 4,.t 14]⟩,
 o 5 .mov [.c (.bool false)],
 o 6 .mov [.c (.int .i64 0)]])
 .ret)
 (.seq (.reg []
 [o 16 .mov [.t 0],
 o 17 .mov [.t 7],
 o 18 (.idxA 12) [.t 16,.t 17],
 o 19 (.fldA 1) [.t 18],
 o 20 (.load none) [.t 19],
 o 21 .unNot [.t 20],
 o 15 .mov [.t 21]])
 (.cond (.t 15)
 (.seq (.reg [[],[],[],[1,2],[3],[4],[0,0],[6,0,6],[5,7,0,1,2,3,4,5,6,7]]
 [o 22 (.build [.int .u32 0,.int .i64 0,.int .i64 0,.int .i64 0,.int .u32 0] []) [],
 o 23 .mov [.t 0],
 o 24 .mov [.t 7],
 o 25 (.idxA 12) [.t 23,.t 24],
 o 26 (.fldA 0) [.t 25],
 o 27 (.load none) [.t 26],
 ⟨none,none,.store 5,[.t 4,.t 22]⟩,
 o 5 .mov [.c (.bool false)],
 o 6 .mov [.t 27]])
 .ret)
 .skip)))))
 (.seq (.reg [[],[],[0,1],[2],[],[3,4],[],[],[6,7],[8],[9],[5,5,0,1,2,3,4,5],[11,0,1,2,3,4,5,11],[10,12,0,1,2,3,4,5,6,7,8,9,10,11,12]]
 [o 28 .mov [.t 0],
 o 29 .mov [.t 7],
 o 30 (.idxA 12) [.t 28,.t 29],
 o 31 (.load (some 12)) [.t 30],
 o 32 (.load (some 5)) [.t 3],
 o 33 (.call 122) [.t 31,.t 32],
 o 34 .mov [.t 0],
 o 35 .mov [.t 7],
 o 36 (.idxA 12) [.t 34,.t 35],
 o 37 (.fldA 0) [.t 36],
 o 38 (.load none) [.t 37],
 ⟨none,none,.store 5,[.t 4,.t 33]⟩,
 o 5 .mov [.c (.bool true)],
 o 6 .mov [.t 38]])
 .ret)))
theorem i88:fnInfo Tryz.prog 88 = some (39,[.c 4 (some 5),.t 5,.t 6],ac88):=by kernel_rfl
def ac89:AC :=
 .seq (.reg []
 [o 1 .box [.t 0],
 o 2 .mov [.c (.bool false)]])
 (.seq (.reg []
 [o 5 (.fldA 4) [.t 1],
 o 6 (.load none) [.t 5],
 o 7 (.call 123) [.t 6,.c (.int .i64 1),.c (.int .i64 255)],
 o 3 .mov [.t 7]])
 (.seq (.seq (.reg []
 [o 8 (.fldA 2) [.t 1],
 o 9 (.load none) [.t 8],
 o 10 (.bin .eql .scal) [.t 9,.c (.int .i64 0)]])
 (.cond (.t 10)
 (.reg []
 [o 11 (.fldA 4) [.t 1],
 o 12 (.load none) [.t 11],
 o 13 (.bin .eql .scal) [.t 12,.c (.int .i64 0)],
 o 3 .mov [.t 13]])
 .skip))
 (.seq (.reg []
 [o 14 (.fldA 8) [.t 1],
 o 15 (.load none) [.t 14],
 o 16 (.call 123) [.t 15,.c (.int .i64 0),.c (.int .i64 31)],
 o 17 .mov [.t 16],
 ⟨some 18,some (17,true),.fldA 7,[.t 1]⟩,
 ⟨some 19,some (17,true),.load none,[.t 18]⟩,
 ⟨some 20,some (17,true),.mov,[.t 19]⟩,
 ⟨some 21,some (20,false),.fldA 8,[.t 1]⟩,
 ⟨some 22,some (20,false),.load none,[.t 21]⟩,
 ⟨some 23,some (20,false),.bin .eql .scal,[.t 22,.c (.int .i64 0)]⟩,
 ⟨some 24,some (17,true),.pick,[.t 20,.c (.bool true),.t 23]⟩,
 o 25 .pick [.t 17,.t 24,.c (.bool false)],
 o 4 .mov [.t 25]])
 (.seq (.reg []
 [o 26 (.fldA 0) [.t 1],
 o 27 (.load (some 2)) [.t 26],
 o 28 (.call 124) [.t 27],
 o 29 .mov [.t 28],
 ⟨some 30,some (29,true),.fldA 2,[.t 1]⟩,
 ⟨some 31,some (29,true),.load none,[.t 30]⟩,
 ⟨some 32,some (29,true),.call 123,[.t 31,.c (.int .i64 0),.c (.int .i64 5)]⟩,
 o 33 .pick [.t 29,.t 32,.c (.bool false)],
 o 34 .mov [.t 33],
 ⟨some 35,some (34,true),.fldA 3,[.t 1]⟩,
 ⟨some 36,some (34,true),.load none,[.t 35]⟩,
 ⟨some 37,some (34,true),.call 123,[.t 36,.c (.int .i64 0),.c (.int .i64 99)]⟩,
 o 38 .pick [.t 34,.t 37,.c (.bool false)],
 o 39 .mov [.t 38],
 ⟨some 40,some (39,true),.fldA 5,[.t 1]⟩,
 ⟨some 41,some (39,true),.load none,[.t 40]⟩,
 ⟨some 42,some (39,true),.bin .geq .scal,[.t 41,.c (.int .i64 0)]⟩,
 o 43 .pick [.t 39,.t 42,.c (.bool false)],
 o 44 .mov [.t 43],
 ⟨some 45,some (44,true),.mov,[.t 3]⟩,
 o 46 .pick [.t 44,.t 45,.c (.bool false)],
 o 47 .mov [.t 46],
 ⟨some 48,some (47,true),.mov,[.t 4]⟩,
 o 49 .pick [.t 47,.t 48,.c (.bool false)],
 o 50 .mov [.t 49],
 ⟨some 51,some (50,true),.fldA 9,[.t 1]⟩,
 ⟨some 52,some (50,true),.load none,[.t 51]⟩,
 ⟨some 53,some (50,true),.lenL,[.t 52]⟩,
 ⟨some 54,some (50,true),.call 123,[.t 53,.c (.int .i64 1),.c (.int .i64 8)]⟩,
 o 55 .pick [.t 50,.t 54,.c (.bool false)],
 o 2 .mov [.t 55]])
 .ret))))
theorem i89:fnInfo Tryz.prog 89 = some (56,[.t 2],ac89):=by kernel_rfl
def ac90_1:AC :=
 .seq (.seq (.reg []
 [o 15 .mov [.t 9],
 o 16 .mov [.t 10],
 o 17 (.bin .lss .scal) [.t 15,.t 16]])
 (.cond (.t 17)
 .skip
 (.exit 0)))
 (.block 1 (.seq (.reg []
 [o 18 .mov [.t 9],
 o 19 .mov [.t 10],
 o 20 (.bin .add .scal) [.t 18,.t 19],
 o 21 (.conv .u64) [.t 20],
 o 22 (.bin .shr .scal) [.t 21,.c (.int .u64 1)],
 o 23 (.conv .i64) [.t 22],
 o 11 .mov [.t 23]])
 (.seq (.reg [[],[],[],[1,2],[3],[],[0,4,5],[6]]
 [o 24 .mov [.t 2],
 o 25 .mov [.t 0],
 o 26 .mov [.t 11],
 o 27 (.idxA 10) [.t 25,.t 26],
 o 28 (.load (some 10)) [.t 27],
 o 29 (.load (some 10)) [.t 4],
 o 30 .callv [.t 24,.t 28,.t 29],
 o 31 (.bin .lss .scal) [.t 30,.c (.int .i64 0)]])
 (.cond (.t 31)
 (.reg []
 [o 32 .mov [.t 11],
 o 33 (.bin .add .scal) [.t 32,.c (.int .i64 1)],
 o 9 .mov [.t 33]])
 (.reg []
 [o 34 .mov [.t 11],
 o 10 .mov [.t 34]])))))
def ac90:AC :=
 .seq (.reg []
 [o 4 .box [.t 1],
 o 6 .mov [.c (.int .i64 0)],
 o 7 .mov [.c (.bool false)]])
 (.seq (.reg []
 [o 12 .mov [.t 0],
 o 13 .lenL [.t 12],
 o 8 .mov [.t 13]])
 (.seq (.reg []
 [o 14 .mov [.t 8],
 o 9 .mov [.c (.int .i64 0)],
 o 10 .mov [.t 14]])
 (.seq (.block 0 (.loop ac90_1))
 (.seq (.reg [[],[],[],[1,2],[3],[4],[4],[4],[6,7,4],[8,4],[4],[5,9,10,4,4],[11,4],[4,12],[0,11,0],[13,14,0,1,2,3,4,5,6,7,8,9,10,11,12,13,14]]
 [o 35 .mov [.t 9],
 o 36 .mov [.t 9],
 o 37 .mov [.t 8],
 o 38 (.bin .lss .scal) [.t 36,.t 37],
 o 39 .mov [.t 38],
 ⟨some 40,some (39,true),.mov,[.t 2]⟩,
 ⟨some 41,some (39,true),.mov,[.t 0]⟩,
 ⟨some 42,some (39,true),.mov,[.t 9]⟩,
 ⟨some 43,some (39,true),.idxA 10,[.t 41,.t 42]⟩,
 ⟨some 44,some (39,true),.load (some 10),[.t 43]⟩,
 ⟨some 45,some (39,true),.load (some 10),[.t 4]⟩,
 ⟨some 46,some (39,true),.callv,[.t 40,.t 44,.t 45]⟩,
 ⟨some 47,some (39,true),.bin .eql .scal,[.t 46,.c (.int .i64 0)]⟩,
 o 48 .pick [.t 39,.t 47,.c (.bool false)],
 o 6 .mov [.t 35],
 o 7 .mov [.t 48]])
 .ret))))
theorem i90:fnInfo Tryz.prog 90 = some (49,[.t 6,.t 7],ac90):=by kernel_rfl
def ac91:AC :=
 .seq (.reg []
 [o 2 .box [.t 0],
 o 3 .box [.t 1],
 o 4 .mov [.c (.int .i64 0)]])
 (.seq (.reg [[],[0],[1],[],[3],[4],[2,5],[],[7],[8],[],[10],[11],[9,12,6],[],[14,13],[],[16,15],[15,17],[],[19],[],[21],[20,22,17],[],[24],[],[26],[25,27,23],[],[29],[],[31],[30,32,28],[6,13,18,23,28,33],[34,33],[35,35,0,1,2,3,4,5,6,7,8,9,10,11,12,13,14,15,16,17,18,19,20,21,22,23,24,25,26,27,28,29,30,31,32,33,34,35]]
 [o 5 (.fldA 0) [.t 2],
 o 6 (.fldA 0) [.t 5],
 o 7 (.load none) [.t 6],
 o 8 (.fldA 0) [.t 3],
 o 9 (.fldA 0) [.t 8],
 o 10 (.load none) [.t 9],
 o 11 (.call 126) [.t 7,.t 10],
 o 12 (.fldA 0) [.t 2],
 o 13 (.fldA 1) [.t 12],
 o 14 (.load none) [.t 13],
 o 15 (.fldA 0) [.t 3],
 o 16 (.fldA 1) [.t 15],
 o 17 (.load none) [.t 16],
 o 18 (.call 127) [.t 14,.t 17],
 o 19 (.load (some 10)) [.t 2],
 o 20 (.call 128) [.t 19],
 o 21 (.load (some 10)) [.t 3],
 o 22 (.call 128) [.t 21],
 o 23 (.bin .sub .scal) [.t 20,.t 22],
 o 24 (.fldA 8) [.t 2],
 o 25 (.load none) [.t 24],
 o 26 (.fldA 8) [.t 3],
 o 27 (.load none) [.t 26],
 o 28 (.call 127) [.t 25,.t 27],
 o 29 (.fldA 2) [.t 2],
 o 30 (.load none) [.t 29],
 o 31 (.fldA 2) [.t 3],
 o 32 (.load none) [.t 31],
 o 33 (.call 127) [.t 30,.t 32],
 o 34 (.fldA 3) [.t 2],
 o 35 (.load none) [.t 34],
 o 36 (.fldA 3) [.t 3],
 o 37 (.load none) [.t 36],
 o 38 (.call 127) [.t 35,.t 37],
 o 39 (.bslice 1 3) [.t 11,.t 18,.t 23,.t 28,.t 33,.t 38],
 o 40 (.call 125) [.t 39],
 o 4 .mov [.t 40]])
 .ret)
theorem i91:fnInfo Tryz.prog 91 = some (41,[.t 4],ac91):=by kernel_rfl
def ac92:AC :=
 .seq (.reg []
 [o 6 .mov [.c .nils]])
 (.seq (.reg []
 [o 10 .mov [.t 0],
 o 11 .mov [.t 1],
 o 12 (.slice 10 true false) [.t 10,.t 11]])
 (.seq (.reg []
 [o 13 .mov [.t 2],
 o 14 .lenL [.t 13],
 o 7 .mov [.t 14]])
 (.seq (.seq (.reg []
 [o 15 .mov [.t 7],
 o 16 (.bin .eql .scal) [.t 15,.c (.int .i64 0)]])
 (.cond (.t 16)
 (.seq (.reg []
 [o 17 .mov [.t 0],
 o 6 .mov [.t 17]])
 .ret)
 .skip))
 (.seq (.reg []
 [o 18 .mov [.t 0],
 o 19 .lenL [.t 18],
 o 8 .mov [.t 19]])
 (.seq (.seq (.reg []
 [o 20 .mov [.t 1],
 o 21 .mov [.t 8],
 o 22 (.bin .eql .scal) [.t 20,.t 21]])
 (.cond (.t 22)
 (.seq (.reg []
 [o 23 .mov [.t 0],
 o 24 .mov [.t 2],
 o 25 (.append 10 42 88) [.t 23,.t 24],
 o 6 .mov [.t 25]])
 .ret)
 .skip))
 (.seq (.seq (.reg []
 [o 26 .mov [.t 8],
 o 27 .mov [.t 7],
 o 28 (.bin .add .scal) [.t 26,.t 27],
 o 29 .mov [.t 0],
 o 30 .capL [.t 29],
 o 31 (.bin .gtr .scal) [.t 28,.t 30]])
 (.cond (.t 31)
 (.seq (.reg []
 [o 32 .mov [.t 0],
 o 33 .mov [.t 1],
 o 34 (.slice 10 false true) [.t 32,.t 33],
 o 35 .mov [.t 8],
 o 36 .mov [.t 7],
 o 37 (.bin .add .scal) [.t 35,.t 36],
 o 38 .mov [.t 1],
 o 39 (.bin .sub .scal) [.t 37,.t 38],
 o 40 (.appendZ 10 42 88 [.int .u32 0,.int .i64 0,.int .i64 0,.int .i64 0,.int .i64 0,.int .i64 0,.int .u32 0,.bool false,.int .i64 0,.nils]) [.t 34,.t 39],
 o 9 .mov [.t 40]])
 (.seq (.reg []
 [o 41 .mov [.t 9],
 o 42 .mov [.t 1],
 o 43 (.slice 10 true false) [.t 41,.t 42],
 o 44 .mov [.t 2],
 o 45 (.copy 10) [.t 43,.t 44]])
 (.seq (.reg [[],[],[],[1,2],[0,3],[],[],[5,6],[4,7]]
 [o 46 .mov [.t 9],
 o 47 .mov [.t 1],
 o 48 .mov [.t 7],
 o 49 (.bin .add .scal) [.t 47,.t 48],
 o 50 (.slice 10 true false) [.t 46,.t 49],
 o 51 .mov [.t 0],
 o 52 .mov [.t 1],
 o 53 (.slice 10 true false) [.t 51,.t 52],
 o 54 (.copy 10) [.t 50,.t 53]])
 (.seq (.reg []
 [o 55 .mov [.t 9],
 o 6 .mov [.t 55]])
 .ret))))
 .skip))
 (.seq (.reg []
 [o 56 .mov [.t 0],
 o 57 .mov [.t 8],
 o 58 .mov [.t 7],
 o 59 (.bin .add .scal) [.t 57,.t 58],
 o 60 (.slice 10 false true) [.t 56,.t 59],
 o 0 .mov [.t 60]])
 (.seq (.seq (.reg []
 [o 61 .mov [.t 2],
 o 62 .mov [.t 0],
 o 63 .mov [.t 1],
 o 64 .mov [.t 7],
 o 65 (.bin .add .scal) [.t 63,.t 64],
 o 66 (.slice 10 true false) [.t 62,.t 65],
 o 67 (.call 129) [.t 61,.t 66],
 o 68 .unNot [.t 67]])
 (.cond (.t 68)
 (.seq (.reg [[],[],[],[1,2],[0,3],[],[],[5,6],[4,7]]
 [o 69 .mov [.t 0],
 o 70 .mov [.t 1],
 o 71 .mov [.t 7],
 o 72 (.bin .add .scal) [.t 70,.t 71],
 o 73 (.slice 10 true false) [.t 69,.t 72],
 o 74 .mov [.t 0],
 o 75 .mov [.t 1],
 o 76 (.slice 10 true false) [.t 74,.t 75],
 o 77 (.copy 10) [.t 73,.t 76]])
 (.seq (.reg []
 [o 78 .mov [.t 0],
 o 79 .mov [.t 1],
 o 80 (.slice 10 true false) [.t 78,.t 79],
 o 81 .mov [.t 2],
 o 82 (.copy 10) [.t 80,.t 81]])
 (.seq (.reg []
 [o 83 .mov [.t 0],
 o 6 .mov [.t 83]])
 .ret)))
 .skip))
 (.seq (.reg []
 [o 84 .mov [.t 0],
 o 85 .mov [.t 8],
 o 86 (.slice 10 true false) [.t 84,.t 85],
 o 87 .mov [.t 2],
 o 88 (.copy 10) [.t 86,.t 87]])
 (.seq (.reg []
 [o 89 .mov [.t 0],
 o 90 .mov [.t 1],
 o 91 (.slice 10 true false) [.t 89,.t 90],
 o 92 .mov [.t 7],
 o 93 (.call 130) [.t 91,.t 92]])
 (.seq (.reg []
 [o 94 .mov [.t 0],
 o 6 .mov [.t 94]])
 .ret)))))))))))
theorem i92:fnInfo Tryz.prog 92 = some (95,[.t 6],ac92):=by kernel_rfl
def ac97_1:AC :=
 .seq (.reg []
 [o 14 (.bin .lss .scal) [.t 13,.t 12]])
 (.seq (.cond (.t 14)
 .skip
 (.exit 0))
 (.seq (.block 1 (.seq (.reg []
 [o 15 .mov [.t 13],
 o 5 .mov [.t 15]])
 (.seq (.reg [[],[],[0,1],[2],[],[],[4,5],[6],[3,7]]
 [o 16 .mov [.t 0],
 o 17 .mov [.t 5],
 o 18 (.idxA 2) [.t 16,.t 17],
 o 19 (.load (some 2)) [.t 18],
 o 20 .mov [.t 1],
 o 21 .mov [.t 5],
 o 22 (.idxA 2) [.t 20,.t 21],
 o 23 (.load (some 2)) [.t 22],
 o 24 (.bin .neq (.flat [.int .i64,.int .u32])) [.t 19,.t 23]])
 (.cond (.t 24)
 (.seq (.reg []
 [o 4 .mov [.c (.bool false)]])
 .ret)
 .skip))))
 (.reg []
 [o 25 (.bin .add .scal) [.t 13,.c (.int .i64 1)],
 o 13 .mov [.t 25]])))
def ac97:AC :=
 .seq (.reg []
 [o 4 .mov [.c (.bool false)]])
 (.seq (.seq (.reg []
 [o 6 .mov [.t 0],
 o 7 .lenL [.t 6],
 o 8 .mov [.t 1],
 o 9 .lenL [.t 8],
 o 10 (.bin .neq .scal) [.t 7,.t 9]])
 (.cond (.t 10)
 (.seq (.reg []
 [o 4 .mov [.c (.bool false)]])
 .ret)
 .skip))
 (.seq (.seq (.reg []
 [o 11 .mov [.t 0],
 o 12 .lenL [.t 11],
 o 13 .mov [.c (.int .i64 0)]])
 (.block 0 (.loop ac97_1)))
 (.seq (.reg []
 [o 4 .mov [.c (.bool true)]])
 .ret)))
theorem i97:fnInfo Tryz.prog 97 = some (26,[.t 4],ac97):=by kernel_rfl
def ac98:AC :=
 .seq (.reg []
 [o 1 .box [.t 0],
 o 2 .mov [.c (.bool false)]])
 (.seq (.reg []
 [o 3 (.load (some 12)) [.t 1],
 o 4 (.call 99) [.t 3],
 o 5 .unNot [.t 4],
 o 2 .mov [.t 5]])
 .ret)
theorem i98:fnInfo Tryz.prog 98 = some (6,[.t 2],ac98):=by kernel_rfl
def ac99:AC :=
 .seq (.reg []
 [o 1 .box [.t 0],
 o 2 .mov [.c (.bool false)]])
 (.seq (.reg []
 [o 5 (.fldA 3) [.t 1],
 o 6 (.load none) [.t 5],
 o 7 (.call 138) [.t 6,.c (.int .i64 (-1)),.c (.int .i64 9)],
 o 8 .mov [.t 7],
 ⟨some 9,some (8,true),.fldA 4,[.t 1]⟩,
 ⟨some 10,some (8,true),.load none,[.t 9]⟩,
 ⟨some 11,some (8,true),.fldA 5,[.t 1]⟩,
 ⟨some 12,some (8,true),.load none,[.t 11]⟩,
 ⟨some 13,some (8,true),.call 138,[.t 10,.c (.int .i64 0),.t 12]⟩,
 o 14 .pick [.t 8,.t 13,.c (.bool false)],
 o 15 .mov [.t 14],
 ⟨some 16,some (15,true),.fldA 5,[.t 1]⟩,
 ⟨some 17,some (15,true),.load none,[.t 16]⟩,
 ⟨some 18,some (15,true),.bin .leq .scal,[.t 17,.c (.int .i64 16777215)]⟩,
 o 19 .pick [.t 15,.t 18,.c (.bool false)],
 o 3 .mov [.t 19]])
 (.seq (.reg []
 [o 20 (.fldA 7) [.t 1],
 o 21 (.load none) [.t 20],
 o 22 (.call 138) [.t 21,.c (.int .i64 (-1)),.c (.int .i64 16777215)],
 o 23 .mov [.t 22],
 ⟨some 24,some (23,true),.fldA 8,[.t 1]⟩,
 ⟨some 25,some (23,true),.load none,[.t 24]⟩,
 ⟨some 26,some (23,true),.call 138,[.t 25,.c (.int .i64 0),.c (.int .i64 16777215)]⟩,
 o 27 .pick [.t 23,.t 26,.c (.bool false)],
 o 28 .mov [.t 27],
 ⟨some 29,some (28,true),.fldA 9,[.t 1]⟩,
 ⟨some 30,some (28,true),.load none,[.t 29]⟩,
 ⟨some 31,some (28,true),.call 138,[.t 30,.c (.int .i64 (-1)),.c (.int .i64 9)]⟩,
 o 32 .pick [.t 28,.t 31,.c (.bool false)],
 o 4 .mov [.t 32]])
 (.seq (.reg []
 [o 33 (.fldA 0) [.t 1],
 o 34 (.load none) [.t 33],
 o 35 (.call 138) [.t 34,.c (.int .i64 1),.c (.int .i64 65535)],
 o 36 .mov [.t 35],
 ⟨some 37,some (36,true),.mov,[.t 3]⟩,
 o 38 .pick [.t 36,.t 37,.c (.bool false)],
 o 39 .mov [.t 38],
 ⟨some 40,some (39,true),.mov,[.t 4]⟩,
 o 41 .pick [.t 39,.t 40,.c (.bool false)],
 o 42 .mov [.t 41],
 ⟨some 43,some (42,true),.fldA 2,[.t 1]⟩,
 ⟨some 44,some (42,true),.load none,[.t 43]⟩,
 ⟨some 45,some (42,true),.call 139,[.t 44]⟩,
 o 46 .pick [.t 42,.t 45,.c (.bool false)],
 o 2 .mov [.t 46]])
 .ret)))
theorem i99:fnInfo Tryz.prog 99 = some (47,[.t 2],ac99):=by kernel_rfl
def ac100:AC :=
 .seq (.reg []
 [o 4 .mov [.c (.bool false)]])
 (.seq (.reg []
 [o 5 .mov [.t 0],
 o 6 .mov [.t 1],
 o 7 (.call 119) [.t 5,.t 6],
 o 8 (.bin .geq .scal) [.t 7,.c (.int .i64 0)],
 o 4 .mov [.t 8]])
 .ret)
theorem i100:fnInfo Tryz.prog 100 = some (9,[.t 4],ac100):=by kernel_rfl
def ac101_1:AC :=
 .seq (.reg []
 [o 9 (.bin .lss .scal) [.t 8,.t 7]])
 (.seq (.cond (.t 9)
 .skip
 (.exit 0))
 (.seq (.block 1 (.seq (.reg []
 [o 10 .mov [.t 8],
 o 5 .mov [.t 10]])
 (.seq (.reg [[],[0],[1],[2],[2],[2],[4,5,2],[6,2],[3,7,2,2],[2],[2],[2],[11,2],[10,12,2],[13,2],[9,14,8,2],[8,15,2],[2,16]]
 [o 11 .mov [.t 5],
 o 12 (.bin .gtr .scal) [.t 11,.c (.int .i64 0)],
 o 13 .mov [.t 12],
 ⟨some 14,some (13,true),.mov,[.t 1]⟩,
 ⟨some 15,some (13,true),.mov,[.t 0]⟩,
 ⟨some 16,some (13,true),.mov,[.t 5]⟩,
 ⟨some 17,some (13,true),.idxA 12,[.t 15,.t 16]⟩,
 ⟨some 18,some (13,true),.load (some 12),[.t 17]⟩,
 ⟨some 19,some (13,true),.callv,[.t 14,.t 18]⟩,
 ⟨some 20,some (13,true),.mov,[.t 1]⟩,
 ⟨some 21,some (13,true),.mov,[.t 0]⟩,
 ⟨some 22,some (13,true),.mov,[.t 5]⟩,
 ⟨some 23,some (13,true),.bin .sub .scal,[.t 22,.c (.int .i64 1)]⟩,
 ⟨some 24,some (13,true),.idxA 12,[.t 21,.t 23]⟩,
 ⟨some 25,some (13,true),.load (some 12),[.t 24]⟩,
 ⟨some 26,some (13,true),.callv,[.t 20,.t 25]⟩,
 ⟨some 27,some (13,true),.bin .leq .scal,[.t 19,.t 26]⟩,
 o 28 .pick [.t 13,.t 27,.c (.bool false)]])
 (.cond (.t 28)
 (.seq (.reg []
 [o 4 .mov [.c (.bool false)]])
 .ret)
 .skip))))
 (.reg []
 [o 29 (.bin .add .scal) [.t 8,.c (.int .i64 1)],
 o 8 .mov [.t 29]])))
def ac101:AC :=
 .seq (.reg []
 [o 4 .mov [.c (.bool false)]])
 (.seq (.seq (.reg []
 [o 6 .mov [.t 0],
 o 7 .lenL [.t 6],
 o 8 .mov [.c (.int .i64 0)]])
 (.block 0 (.loop ac101_1)))
 (.seq (.reg []
 [o 4 .mov [.c (.bool true)]])
 .ret))
theorem i101:fnInfo Tryz.prog 101 = some (30,[.t 4],ac101):=by kernel_rfl
def ac102:AC :=
 .seq (.reg []
 [o 1 .box [.t 0],
 o 2 .mov [.c (.int .i64 0)]])
 (.seq (.reg []
 [o 3 (.fldA 0) [.t 1],
 o 4 (.load none) [.t 3],
 o 2 .mov [.t 4]])
 .ret)
theorem i102:fnInfo Tryz.prog 102 = some (5,[.t 2],ac102):=by kernel_rfl
def ac103_1:AC :=
 .seq (.reg []
 [o 9 (.bin .lss .scal) [.t 8,.t 7]])
 (.seq (.cond (.t 9)
 .skip
 (.exit 0))
 (.seq (.block 1 (.seq (.reg []
 [o 10 .mov [.t 8],
 o 5 .mov [.t 10]])
 (.seq (.reg []
 [o 11 .mov [.t 1],
 o 12 .mov [.t 0],
 o 13 .mov [.t 5],
 o 14 (.idxA 3) [.t 12,.t 13],
 o 15 (.load (some 3)) [.t 14],
 o 16 .callv [.t 11,.t 15]])
 (.cond (.t 16)
 (.seq (.reg []
 [o 17 .mov [.t 5],
 o 4 .mov [.t 17]])
 .ret)
 .skip))))
 (.reg []
 [o 18 (.bin .add .scal) [.t 8,.c (.int .i64 1)],
 o 8 .mov [.t 18]])))
def ac103:AC :=
 .seq (.reg []
 [o 4 .mov [.c (.int .i64 0)]])
 (.seq (.seq (.reg []
 [o 6 .mov [.t 0],
 o 7 .lenL [.t 6],
 o 8 .mov [.c (.int .i64 0)]])
 (.block 0 (.loop ac103_1)))
 (.seq (.reg []
 [o 4 .mov [.c (.int .i64 (-1))]])
 .ret))
theorem i103:fnInfo Tryz.prog 103 = some (19,[.t 4],ac103):=by kernel_rfl
def ac104_1:AC :=
 .seq (.seq (.reg []
 [o 15 .mov [.t 9],
 o 16 .mov [.t 10],
 o 17 (.bin .lss .scal) [.t 15,.t 16]])
 (.cond (.t 17)
 .skip
 (.exit 0)))
 (.block 1 (.seq (.reg []
 [o 18 .mov [.t 9],
 o 19 .mov [.t 10],
 o 20 (.bin .add .scal) [.t 18,.t 19],
 o 21 (.conv .u64) [.t 20],
 o 22 (.bin .shr .scal) [.t 21,.c (.int .u64 1)],
 o 23 (.conv .i64) [.t 22],
 o 11 .mov [.t 23]])
 (.seq (.reg [[],[],[],[1,2],[3],[],[0,4,5],[6]]
 [o 24 .mov [.t 2],
 o 25 .mov [.t 0],
 o 26 .mov [.t 11],
 o 27 (.idxA 3) [.t 25,.t 26],
 o 28 (.load (some 3)) [.t 27],
 o 29 (.load (some 3)) [.t 4],
 o 30 .callv [.t 24,.t 28,.t 29],
 o 31 (.bin .lss .scal) [.t 30,.c (.int .i64 0)]])
 (.cond (.t 31)
 (.reg []
 [o 32 .mov [.t 11],
 o 33 (.bin .add .scal) [.t 32,.c (.int .i64 1)],
 o 9 .mov [.t 33]])
 (.reg []
 [o 34 .mov [.t 11],
 o 10 .mov [.t 34]])))))
def ac104:AC :=
 .seq (.reg []
 [o 4 .box [.t 1],
 o 6 .mov [.c (.int .i64 0)],
 o 7 .mov [.c (.bool false)]])
 (.seq (.reg []
 [o 12 .mov [.t 0],
 o 13 .lenL [.t 12],
 o 8 .mov [.t 13]])
 (.seq (.reg []
 [o 14 .mov [.t 8],
 o 9 .mov [.c (.int .i64 0)],
 o 10 .mov [.t 14]])
 (.seq (.block 0 (.loop ac104_1))
 (.seq (.reg [[],[],[],[1,2],[3],[4],[4],[4],[6,7,4],[8,4],[4],[5,9,10,4,4],[11,4],[4,12],[0,11,0],[13,14,0,1,2,3,4,5,6,7,8,9,10,11,12,13,14]]
 [o 35 .mov [.t 9],
 o 36 .mov [.t 9],
 o 37 .mov [.t 8],
 o 38 (.bin .lss .scal) [.t 36,.t 37],
 o 39 .mov [.t 38],
 ⟨some 40,some (39,true),.mov,[.t 2]⟩,
 ⟨some 41,some (39,true),.mov,[.t 0]⟩,
 ⟨some 42,some (39,true),.mov,[.t 9]⟩,
 ⟨some 43,some (39,true),.idxA 3,[.t 41,.t 42]⟩,
 ⟨some 44,some (39,true),.load (some 3),[.t 43]⟩,
 ⟨some 45,some (39,true),.load (some 3),[.t 4]⟩,
 ⟨some 46,some (39,true),.callv,[.t 40,.t 44,.t 45]⟩,
 ⟨some 47,some (39,true),.bin .eql .scal,[.t 46,.c (.int .i64 0)]⟩,
 o 48 .pick [.t 39,.t 47,.c (.bool false)],
 o 6 .mov [.t 35],
 o 7 .mov [.t 48]])
 .ret))))
theorem i104:fnInfo Tryz.prog 104 = some (49,[.t 6,.t 7],ac104):=by kernel_rfl
def ac105:AC :=
 .seq (.reg []
 [o 2 .box [.t 0],
 o 3 .box [.t 1],
 o 4 .mov [.c (.int .i64 0)]])
 (.seq (.reg [[],[0],[],[2],[1,3],[],[5],[6],[],[8],[9],[7,10,4],[],[12],[13],[],[15],[16],[14,17,11],[4,11,18],[19,18],[20,20,0,1,2,3,4,5,6,7,8,9,10,11,12,13,14,15,16,17,18,19,20]]
 [o 5 (.fldA 0) [.t 2],
 o 6 (.load none) [.t 5],
 o 7 (.fldA 0) [.t 3],
 o 8 (.load none) [.t 7],
 o 9 (.call 127) [.t 6,.t 8],
 o 10 (.fldA 1) [.t 2],
 o 11 (.fldA 0) [.t 10],
 o 12 (.load none) [.t 11],
 o 13 (.fldA 1) [.t 3],
 o 14 (.fldA 0) [.t 13],
 o 15 (.load none) [.t 14],
 o 16 (.call 126) [.t 12,.t 15],
 o 17 (.fldA 1) [.t 2],
 o 18 (.fldA 1) [.t 17],
 o 19 (.load none) [.t 18],
 o 20 (.fldA 1) [.t 3],
 o 21 (.fldA 1) [.t 20],
 o 22 (.load none) [.t 21],
 o 23 (.call 127) [.t 19,.t 22],
 o 24 (.bslice 1 3) [.t 9,.t 16,.t 23],
 o 25 (.call 125) [.t 24],
 o 4 .mov [.t 25]])
 .ret)
theorem i105:fnInfo Tryz.prog 105 = some (26,[.t 4],ac105):=by kernel_rfl
def ac106:AC :=
 .seq (.reg []
 [o 6 .mov [.c .nils]])
 (.seq (.reg []
 [o 10 .mov [.t 0],
 o 11 .mov [.t 1],
 o 12 (.slice 3 true false) [.t 10,.t 11]])
 (.seq (.reg []
 [o 13 .mov [.t 2],
 o 14 .lenL [.t 13],
 o 7 .mov [.t 14]])
 (.seq (.seq (.reg []
 [o 15 .mov [.t 7],
 o 16 (.bin .eql .scal) [.t 15,.c (.int .i64 0)]])
 (.cond (.t 16)
 (.seq (.reg []
 [o 17 .mov [.t 0],
 o 6 .mov [.t 17]])
 .ret)
 .skip))
 (.seq (.reg []
 [o 18 .mov [.t 0],
 o 19 .lenL [.t 18],
 o 8 .mov [.t 19]])
 (.seq (.seq (.reg []
 [o 20 .mov [.t 1],
 o 21 .mov [.t 8],
 o 22 (.bin .eql .scal) [.t 20,.t 21]])
 (.cond (.t 22)
 (.seq (.reg []
 [o 23 .mov [.t 0],
 o 24 .mov [.t 2],
 o 25 (.append 3 108 24) [.t 23,.t 24],
 o 6 .mov [.t 25]])
 .ret)
 .skip))
 (.seq (.seq (.reg []
 [o 26 .mov [.t 8],
 o 27 .mov [.t 7],
 o 28 (.bin .add .scal) [.t 26,.t 27],
 o 29 .mov [.t 0],
 o 30 .capL [.t 29],
 o 31 (.bin .gtr .scal) [.t 28,.t 30]])
 (.cond (.t 31)
 (.seq (.reg []
 [o 32 .mov [.t 0],
 o 33 .mov [.t 1],
 o 34 (.slice 3 false true) [.t 32,.t 33],
 o 35 .mov [.t 8],
 o 36 .mov [.t 7],
 o 37 (.bin .add .scal) [.t 35,.t 36],
 o 38 .mov [.t 1],
 o 39 (.bin .sub .scal) [.t 37,.t 38],
 o 40 (.appendZ 3 108 24 [.int .i64 0,.int .u32 0,.int .i64 0]) [.t 34,.t 39],
 o 9 .mov [.t 40]])
 (.seq (.reg []
 [o 41 .mov [.t 9],
 o 42 .mov [.t 1],
 o 43 (.slice 3 true false) [.t 41,.t 42],
 o 44 .mov [.t 2],
 o 45 (.copy 3) [.t 43,.t 44]])
 (.seq (.reg [[],[],[],[1,2],[0,3],[],[],[5,6],[4,7]]
 [o 46 .mov [.t 9],
 o 47 .mov [.t 1],
 o 48 .mov [.t 7],
 o 49 (.bin .add .scal) [.t 47,.t 48],
 o 50 (.slice 3 true false) [.t 46,.t 49],
 o 51 .mov [.t 0],
 o 52 .mov [.t 1],
 o 53 (.slice 3 true false) [.t 51,.t 52],
 o 54 (.copy 3) [.t 50,.t 53]])
 (.seq (.reg []
 [o 55 .mov [.t 9],
 o 6 .mov [.t 55]])
 .ret))))
 .skip))
 (.seq (.reg []
 [o 56 .mov [.t 0],
 o 57 .mov [.t 8],
 o 58 .mov [.t 7],
 o 59 (.bin .add .scal) [.t 57,.t 58],
 o 60 (.slice 3 false true) [.t 56,.t 59],
 o 0 .mov [.t 60]])
 (.seq (.seq (.reg []
 [o 61 .mov [.t 2],
 o 62 .mov [.t 0],
 o 63 .mov [.t 1],
 o 64 .mov [.t 7],
 o 65 (.bin .add .scal) [.t 63,.t 64],
 o 66 (.slice 3 true false) [.t 62,.t 65],
 o 67 (.call 140) [.t 61,.t 66],
 o 68 .unNot [.t 67]])
 (.cond (.t 68)
 (.seq (.reg [[],[],[],[1,2],[0,3],[],[],[5,6],[4,7]]
 [o 69 .mov [.t 0],
 o 70 .mov [.t 1],
 o 71 .mov [.t 7],
 o 72 (.bin .add .scal) [.t 70,.t 71],
 o 73 (.slice 3 true false) [.t 69,.t 72],
 o 74 .mov [.t 0],
 o 75 .mov [.t 1],
 o 76 (.slice 3 true false) [.t 74,.t 75],
 o 77 (.copy 3) [.t 73,.t 76]])
 (.seq (.reg []
 [o 78 .mov [.t 0],
 o 79 .mov [.t 1],
 o 80 (.slice 3 true false) [.t 78,.t 79],
 o 81 .mov [.t 2],
 o 82 (.copy 3) [.t 80,.t 81]])
 (.seq (.reg []
 [o 83 .mov [.t 0],
 o 6 .mov [.t 83]])
 .ret)))
 .skip))
 (.seq (.reg []
 [o 84 .mov [.t 0],
 o 85 .mov [.t 8],
 o 86 (.slice 3 true false) [.t 84,.t 85],
 o 87 .mov [.t 2],
 o 88 (.copy 3) [.t 86,.t 87]])
 (.seq (.reg []
 [o 89 .mov [.t 0],
 o 90 .mov [.t 1],
 o 91 (.slice 3 true false) [.t 89,.t 90],
 o 92 .mov [.t 7],
 o 93 (.call 141) [.t 91,.t 92]])
 (.seq (.reg []
 [o 94 .mov [.t 0],
 o 6 .mov [.t 94]])
 .ret)))))))))))
theorem i106:fnInfo Tryz.prog 106 = some (95,[.t 6],ac106):=by kernel_rfl
def ac107:AC :=
 .seq (.reg []
 [o 2 .box [.t 0],
 o 3 .box [.t 1],
 o 4 (.alloc [.int .u32 0,.int .i64 0,.int .i64 0,.int .i64 0,.int .i64 0,.int .i64 0,.int .u32 0,.bool false,.int .i64 0,.nils]) [],
 o 5 .mov [.c (.bool false)]])
 (.seq (.reg []
 [o 8 (.load (some 1)) [.t 2],
 o 9 (.call 44) [.t 8],
 o 6 .mov [.t 9]])
 (.seq (.reg []
 [o 10 .mov [.t 6],
 o 11 (.mkfn 142 0) [.t 3],
 o 12 (.call 115) [.t 10,.t 11],
 o 7 .mov [.t 12]])
 (.seq (.seq (.reg []
 [o 13 .mov [.t 7],
 o 14 (.bin .lss .scal) [.t 13,.c (.int .i64 0)]])
 (.cond (.t 14)
 (.seq (.reg []
 [o 15 (.build [.int .u32 0,.int .i64 0,.int .i64 0,.int .i64 0,.int .i64 0,.int .i64 0,.int .u32 0,.bool false,.int .i64 0,.nils] []) [],
 ⟨none,none,.store 10,[.t 4,.t 15]⟩,
 o 5 .mov [.c (.bool false)]])
 .ret)
 .skip))
 (.seq (.reg []
 [o 16 .mov [.t 6],
 o 17 .mov [.t 7],
 o 18 (.idxA 10) [.t 16,.t 17],
 o 19 (.load (some 10)) [.t 18],
 ⟨none,none,.store 10,[.t 4,.t 19]⟩,
 o 5 .mov [.c (.bool true)]])
 .ret))))
theorem i107:fnInfo Tryz.prog 107 = some (20,[.c 4 (some 10),.t 5],ac107):=by kernel_rfl
def ac108:AC :=
 .seq (.reg []
 [o 5 .box [.t 1],
 o 6 .box [.t 2],
 o 8 .mov [.c .nils]])
 (.seq (.reg []
 [o 12 .mov [.t 0],
 o 13 (.load (some 2)) [.t 5],
 o 14 (.call 143) [.t 12,.t 13,.f 144],
 o 11 .mov [.t 14],
 o 15 (.ext 0) [.t 11],
 o 16 (.ext 1) [.t 11],
 o 9 .mov [.t 15],
 o 10 .mov [.t 16]])
 (.seq (.reg []
 [o 17 .mov [.t 0],
 o 18 (.call 85) [.t 17],
 o 0 .mov [.t 18]])
 (.seq (.block 0 (.seq (.reg []
 [o 20 .mov [.t 10],
 o 21 .mov [.t 20],
 ⟨some 22,some (21,true),.mov,[.t 3]⟩,
 o 23 .pick [.t 21,.t 22,.c (.bool false)],
 o 19 .mov [.t 23]])
 (.cond (.t 19)
 (.reg []
 [o 24 .mov [.t 0],
 o 25 .mov [.t 9],
 o 26 (.load (some 10)) [.t 6],
 o 27 (.idxA 10) [.t 24,.t 25],
 ⟨none,none,.store 10,[.t 27,.t 26]⟩])
 (.seq (.reg []
 [o 29 .mov [.t 10],
 o 28 .mov [.t 29]])
 (.cond (.t 28)
 (.reg []
 [o 30 .mov [.t 0],
 o 31 .mov [.t 9],
 o 32 .mov [.t 9],
 o 33 (.bin .add .scal) [.t 32,.c (.int .i64 1)],
 o 34 (.call 111) [.t 30,.t 31,.t 33],
 o 0 .mov [.t 34]])
 (.seq (.reg []
 [o 36 .mov [.t 3],
 o 35 .mov [.t 36]])
 (.cond (.t 35)
 (.reg []
 [o 37 .mov [.t 0],
 o 38 .mov [.t 9],
 o 39 (.load (some 10)) [.t 6],
 o 40 (.bslice 10 42) [.t 39],
 o 41 (.call 92) [.t 37,.t 38,.t 40],
 o 0 .mov [.t 41]])
 .skip)))))))
 (.seq (.reg []
 [o 42 .mov [.t 0],
 o 8 .mov [.t 42]])
 .ret))))
theorem i108:fnInfo Tryz.prog 108 = some (43,[.t 8],ac108):=by kernel_rfl
def ac109:AC :=
 .seq (.reg []
 [o 3 .box [.t 0],
 o 4 .mov [.c (.bool false)]])
 (.seq (.reg []
 [o 5 (.load (some 10)) [.t 3],
 o 6 (.load none) [.t 1],
 o 7 (.call 46) [.t 5,.t 6],
 o 8 .mov [.t 7],
 ⟨some 9,some (8,true),.fldA 0,[.t 3]⟩,
 ⟨some 10,some (8,true),.load (some 2),[.t 9]⟩,
 ⟨some 11,some (8,true),.load (some 2),[.t 2]⟩,
 ⟨some 12,some (8,true),.bin .eql (.flat [.int .u32,.int .i64]),[.t 10,.t 11]⟩,
 o 13 .pick [.t 8,.t 12,.c (.bool false)],
 o 4 .mov [.t 13]])
 .ret)
theorem i109:fnInfo Tryz.prog 109 = some (14,[.t 4],ac109):=by kernel_rfl
def ac110:AC :=
 .seq (.reg []
 [o 2 .mov [.c (.int .i64 0)]])
 (.seq (.seq (.reg []
 [o 3 .mov [.t 0]])
 (.cond (.t 3)
 (.seq (.reg []
 [o 2 .mov [.c (.int .i64 1)]])
 .ret)
 .skip))
 (.seq (.reg []
 [o 2 .mov [.c (.int .i64 0)]])
 .ret))
theorem i110:fnInfo Tryz.prog 110 = some (4,[.t 2],ac110):=by kernel_rfl
def ac111:AC :=
 .seq (.reg []
 [o 6 .mov [.c .nils]])
 (.seq (.reg []
 [o 8 .mov [.t 0],
 o 9 .mov [.t 1],
 o 10 .mov [.t 2],
 o 11 .mov [.t 0],
 o 12 .lenL [.t 11],
 o 13 (.slice3 10) [.t 8,.t 9,.t 10,.t 12]])
 (.seq (.seq (.reg []
 [o 14 .mov [.t 1],
 o 15 .mov [.t 2],
 o 16 (.bin .eql .scal) [.t 14,.t 15]])
 (.cond (.t 16)
 (.seq (.reg []
 [o 17 .mov [.t 0],
 o 6 .mov [.t 17]])
 .ret)
 .skip))
 (.seq (.reg []
 [o 18 .mov [.t 0],
 o 19 .lenL [.t 18],
 o 7 .mov [.t 19]])
 (.seq (.reg [[],[],[0,1],[],[],[3,4],[2,5],[6,6,0,1,2,3,4,5,6]]
 [o 20 .mov [.t 0],
 o 21 .mov [.t 1],
 o 22 (.slice 10 false true) [.t 20,.t 21],
 o 23 .mov [.t 0],
 o 24 .mov [.t 2],
 o 25 (.slice 10 true false) [.t 23,.t 24],
 o 26 (.append 10 42 88) [.t 22,.t 25],
 o 0 .mov [.t 26]])
 (.seq (.reg []
 [o 27 .mov [.t 0],
 o 28 .mov [.t 0],
 o 29 .lenL [.t 28],
 o 30 .mov [.t 7],
 o 31 (.slice 10 true true) [.t 27,.t 29,.t 30],
 ⟨none,none,.clear 10 [.int .u32 0,.int .i64 0,.int .i64 0,.int .i64 0,.int .i64 0,.int .i64 0,.int .u32 0,.bool false,.int .i64 0,.ro 2 []],[.t 31]⟩])
 (.seq (.reg []
 [o 32 .mov [.t 0],
 o 6 .mov [.t 32]])
 .ret))))))
theorem i111:fnInfo Tryz.prog 111 = some (33,[.t 6],ac111):=by kernel_rfl
def ac115_1:AC :=
 .seq (.reg []
 [o 9 (.bin .lss .scal) [.t 8,.t 7]])
 (.seq (.cond (.t 9)
 .skip
 (.exit 0))
 (.seq (.block 1 (.seq (.reg []
 [o 10 .mov [.t 8],
 o 5 .mov [.t 10]])
 (.seq (.reg []
 [o 11 .mov [.t 1],
 o 12 .mov [.t 0],
 o 13 .mov [.t 5],
 o 14 (.idxA 10) [.t 12,.t 13],
 o 15 (.load (some 10)) [.t 14],
 o 16 .callv [.t 11,.t 15]])
 (.cond (.t 16)
 (.seq (.reg []
 [o 17 .mov [.t 5],
 o 4 .mov [.t 17]])
 .ret)
 .skip))))
 (.reg []
 [o 18 (.bin .add .scal) [.t 8,.c (.int .i64 1)],
 o 8 .mov [.t 18]])))
def ac115:AC :=
 .seq (.reg []
 [o 4 .mov [.c (.int .i64 0)]])
 (.seq (.seq (.reg []
 [o 6 .mov [.t 0],
 o 7 .lenL [.t 6],
 o 8 .mov [.c (.int .i64 0)]])
 (.block 0 (.loop ac115_1)))
 (.seq (.reg []
 [o 4 .mov [.c (.int .i64 (-1))]])
 .ret))
theorem i115:fnInfo Tryz.prog 115 = some (19,[.t 4],ac115):=by kernel_rfl
def ac116_1:AC :=
 .seq (.reg []
 [o 11 (.bin .lss .scal) [.t 10,.t 9]])
 (.seq (.cond (.t 11)
 .skip
 (.exit 0))
 (.seq (.block 1 (.seq (.reg []
 [o 12 (.idxA 10) [.t 8,.t 10],
 o 13 (.load (some 10)) [.t 12],
 o 4 (.alloc [.int .u32 0,.int .i64 0,.int .i64 0,.int .i64 0,.int .i64 0,.int .i64 0,.int .u32 0,.bool false,.int .i64 0,.nils]) [],
 ⟨none,none,.store 10,[.t 4,.t 13]⟩])
 (.seq (.reg []
 [o 15 (.load (some 1)) [.t 1],
 o 16 (.load (some 10)) [.t 4],
 o 17 (.call 117) [.t 15,.t 16],
 o 14 .mov [.t 17],
 o 18 (.ext 0) [.t 14],
 o 19 (.ext 1) [.t 14],
 o 5 (.alloc [.int .u32 0,.int .i64 0,.int .i64 0,.int .i64 0,.int .i64 0,.int .i64 0,.int .u32 0,.bool false,.int .i64 0,.nils]) [],
 ⟨none,none,.store 10,[.t 5,.t 18]⟩,
 o 6 .mov [.t 19]])
 (.seq (.reg []
 [o 20 .mov [.t 6],
 o 21 .mov [.t 20],
 ⟨some 22,some (21,true),.mov,[.t 0]⟩,
 ⟨some 23,some (21,true),.load (some 10),[.t 5]⟩,
 ⟨some 24,some (21,true),.callv,[.t 22,.t 23]⟩,
 ⟨some 25,some (21,true),.unNot,[.t 24]⟩,
 o 26 .pick [.t 21,.t 25,.c (.bool false)]])
 (.cond (.t 26)
 .ret
 .skip)))))
 (.reg []
 [o 27 (.bin .add .scal) [.t 10,.c (.int .i64 1)],
 o 10 .mov [.t 27]])))
def ac116:AC :=
 .seq (.reg []
 [o 7 (.fldA 0) [.t 1],
 o 8 (.load none) [.t 7],
 o 9 .lenL [.t 8],
 o 10 .mov [.c (.int .i64 0)]])
 (.block 0 (.loop ac116_1))
def ac117_1:AC :=
 .seq (.reg []
 [o 23 (.bin .lss .scal) [.t 22,.t 21]])
 (.seq (.cond (.t 23)
 .skip
 (.exit 0))
 (.seq (.block 1 (.seq (.reg []
 [o 24 (.idxA 2) [.t 20,.t 22],
 o 25 (.load (some 2)) [.t 24],
 o 8 (.alloc [.int .i64 0,.int .u32 0]) [],
 ⟨none,none,.store 2,[.t 8,.t 25]⟩])
 (.seq (.reg []
 [o 27 (.load (some 1)) [.t 2],
 o 28 (.load (some 2)) [.t 8],
 o 29 (.call 148) [.t 27,.t 28],
 o 26 .mov [.t 29],
 o 30 (.ext 0) [.t 26],
 o 31 (.ext 1) [.t 26],
 o 9 (.alloc [.int .i64 0,.int .u32 0]) [],
 ⟨none,none,.store 2,[.t 9,.t 30]⟩,
 o 10 .mov [.t 31]])
 (.seq (.reg []
 [o 32 .mov [.t 10]])
 (.cond (.t 32)
 (.reg []
 [o 33 .mov [.t 6],
 o 34 (.load (some 2)) [.t 9],
 o 35 (.bslice 2 81) [.t 34],
 o 36 (.append 2 81 16) [.t 33,.t 35],
 o 6 .mov [.t 36]])
 .skip)))))
 (.reg []
 [o 37 (.bin .add .scal) [.t 22,.c (.int .i64 1)],
 o 22 .mov [.t 37]])))
def ac117:AC :=
 .seq (.reg []
 [o 2 .box [.t 0],
 o 3 .box [.t 1],
 o 4 (.alloc [.int .u32 0,.int .i64 0,.int .i64 0,.int .i64 0,.int .i64 0,.int .i64 0,.int .u32 0,.bool false,.int .i64 0,.nils]) [],
 o 5 .mov [.c (.bool false)]])
 (.seq (.seq (.reg []
 [o 11 (.fldA 2) [.t 3],
 o 12 (.load none) [.t 11],
 o 13 (.bin .neq .scal) [.t 12,.c (.int .i64 1)],
 o 14 .mov [.t 13],
 ⟨some 15,some (14,false),.fldA 7,[.t 3]⟩,
 ⟨some 16,some (14,false),.load none,[.t 15]⟩,
 o 17 .pick [.t 14,.c (.bool true),.t 16]])
 (.cond (.t 17)
 (.seq (.reg []
 [o 18 (.load (some 10)) [.t 3],
 ⟨none,none,.store 10,[.t 4,.t 18]⟩,
 o 5 .mov [.c (.bool true)]])
 .ret)
 .skip))
 (.seq (.reg []
 [o 6 .mov [.c .nils]])
 (.seq (.seq (.reg []
 [o 19 (.fldA 9) [.t 3],
 o 20 (.load none) [.t 19],
 o 21 .lenL [.t 20],
 o 22 .mov [.c (.int .i64 0)]])
 (.block 0 (.loop ac117_1)))
 (.seq (.seq (.reg []
 [o 38 .mov [.t 6],
 o 39 .lenL [.t 38],
 o 40 (.bin .eql .scal) [.t 39,.c (.int .i64 0)]])
 (.cond (.t 40)
 (.seq (.reg []
 [o 41 (.build [.int .u32 0,.int .i64 0,.int .i64 0,.int .i64 0,.int .i64 0,.int .i64 0,.int .u32 0,.bool false,.int .i64 0,.nils] []) [],
 ⟨none,none,.store 10,[.t 4,.t 41]⟩,
 o 5 .mov [.c (.bool false)]])
 .ret)
 .skip))
 (.seq (.reg []
 [o 42 .mov [.t 6],
 o 43 (.fldA 9) [.t 3],
 ⟨none,none,.store 1,[.t 43,.t 42]⟩])
 (.seq (.reg []
 [o 44 (.load (some 10)) [.t 3],
 ⟨none,none,.store 10,[.t 4,.t 44]⟩,
 o 5 .mov [.c (.bool true)]])
 .ret))))))
theorem i117:fnInfo Tryz.prog 117 = some (45,[.c 4 (some 10),.t 5],ac117):=by kernel_rfl
def ac118:AC :=
 .seq (.reg []
 [o 2 .box [.t 0],
 o 3 .box [.t 1],
 o 4 .mov [.c (.int .i64 0)]])
 (.seq (.reg [[],[0],[],[2],[1,3],[],[5,4],[],[7,6],[6,8],[],[10],[],[12],[11,13,8],[],[15],[],[17],[16,18,14],[],[20],[],[22],[21,23,19],[],[25],[],[27],[26,28,24],[4,9,14,19,24,29],[30,29],[31,31,0,1,2,3,4,5,6,7,8,9,10,11,12,13,14,15,16,17,18,19,20,21,22,23,24,25,26,27,28,29,30,31]]
 [o 5 (.fldA 4) [.t 2],
 o 6 (.load none) [.t 5],
 o 7 (.fldA 4) [.t 3],
 o 8 (.load none) [.t 7],
 o 9 (.call 127) [.t 6,.t 8],
 o 10 (.load (some 10)) [.t 2],
 o 11 (.call 128) [.t 10],
 o 12 (.load (some 10)) [.t 3],
 o 13 (.call 128) [.t 12],
 o 14 (.bin .sub .scal) [.t 11,.t 13],
 o 15 (.fldA 2) [.t 2],
 o 16 (.load none) [.t 15],
 o 17 (.fldA 2) [.t 3],
 o 18 (.load none) [.t 17],
 o 19 (.call 127) [.t 16,.t 18],
 o 20 (.fldA 5) [.t 2],
 o 21 (.load none) [.t 20],
 o 22 (.fldA 5) [.t 3],
 o 23 (.load none) [.t 22],
 o 24 (.call 127) [.t 21,.t 23],
 o 25 (.fldA 3) [.t 2],
 o 26 (.load none) [.t 25],
 o 27 (.fldA 3) [.t 3],
 o 28 (.load none) [.t 27],
 o 29 (.call 127) [.t 26,.t 28],
 o 30 (.fldA 8) [.t 2],
 o 31 (.load none) [.t 30],
 o 32 (.fldA 8) [.t 3],
 o 33 (.load none) [.t 32],
 o 34 (.call 127) [.t 31,.t 33],
 o 35 (.bslice 1 3) [.t 9,.t 14,.t 19,.t 24,.t 29,.t 34],
 o 36 (.call 125) [.t 35],
 o 4 .mov [.t 36]])
 .ret)
theorem i118:fnInfo Tryz.prog 118 = some (37,[.t 4],ac118):=by kernel_rfl
def ac119_1:AC :=
 .seq (.reg []
 [o 9 (.bin .lss .scal) [.t 8,.t 7]])
 (.seq (.cond (.t 9)
 .skip
 (.exit 0))
 (.seq (.block 1 (.seq (.reg []
 [o 10 .mov [.t 8],
 o 5 .mov [.t 10]])
 (.seq (.reg []
 [o 11 .mov [.t 1],
 o 12 .mov [.t 0],
 o 13 .mov [.t 5],
 o 14 (.idxA 12) [.t 12,.t 13],
 o 15 (.load (some 12)) [.t 14],
 o 16 .callv [.t 11,.t 15]])
 (.cond (.t 16)
 (.seq (.reg []
 [o 17 .mov [.t 5],
 o 4 .mov [.t 17]])
 .ret)
 .skip))))
 (.reg []
 [o 18 (.bin .add .scal) [.t 8,.c (.int .i64 1)],
 o 8 .mov [.t 18]])))
def ac119:AC :=
 .seq (.reg []
 [o 4 .mov [.c (.int .i64 0)]])
 (.seq (.seq (.reg []
 [o 6 .mov [.t 0],
 o 7 .lenL [.t 6],
 o 8 .mov [.c (.int .i64 0)]])
 (.block 0 (.loop ac119_1)))
 (.seq (.reg []
 [o 4 .mov [.c (.int .i64 (-1))]])
 .ret))
theorem i119:fnInfo Tryz.prog 119 = some (19,[.t 4],ac119):=by kernel_rfl
def ac120:AC :=
 .seq (.reg []
 [o 2 .box [.t 0],
 o 3 .mov [.c (.bool false)]])
 (.seq (.reg []
 [o 4 (.load (some 12)) [.t 2],
 o 5 (.load (some 5)) [.t 1],
 o 6 (.call 121) [.t 4,.t 5],
 o 3 .mov [.t 6]])
 .ret)
theorem i120:fnInfo Tryz.prog 120 = some (7,[.t 3],ac120):=by kernel_rfl
def ac121:AC :=
 .seq (.reg []
 [o 2 .box [.t 0],
 o 3 .box [.t 1],
 o 4 .mov [.c (.bool false)]])
 (.seq (.reg []
 [o 5 .mov [.c (.bool true)]])
 (.seq (.seq (.reg []
 [o 8 (.fldA 2) [.t 2],
 o 9 (.load none) [.t 8],
 o 10 .lenL [.t 9],
 o 11 (.bin .gtr .scal) [.t 10,.c (.int .i64 0)]])
 (.cond (.t 11)
 (.reg []
 [o 13 (.fldA 2) [.t 2],
 o 14 (.load none) [.t 13],
 o 15 (.fldA 0) [.t 3],
 o 16 (.load (some 2)) [.t 15],
 o 17 (.call 149) [.t 14,.t 16],
 o 12 .mov [.t 17],
 o 18 (.ext 0) [.t 12],
 o 19 (.ext 1) [.t 12],
 o 5 .mov [.t 18]])
 .skip))
 (.seq (.reg []
 [o 20 (.fldA 3) [.t 2],
 o 21 (.load none) [.t 20],
 o 22 (.bin .eql .scal) [.t 21,.c (.int .i64 (-1))],
 o 23 .mov [.t 22],
 ⟨some 24,some (23,false),.fldA 3,[.t 2]⟩,
 ⟨some 25,some (23,false),.load none,[.t 24]⟩,
 ⟨some 26,some (23,false),.fldA 2,[.t 3]⟩,
 ⟨some 27,some (23,false),.load none,[.t 26]⟩,
 ⟨some 28,some (23,false),.bin .eql .scal,[.t 25,.t 27]⟩,
 o 29 .pick [.t 23,.c (.bool true),.t 28],
 o 6 .mov [.t 29]])
 (.seq (.reg []
 [o 30 (.fldA 6) [.t 2],
 o 31 (.load none) [.t 30],
 o 32 .lenL [.t 31],
 o 33 (.bin .eql .scal) [.t 32,.c (.int .i64 0)],
 o 34 .mov [.t 33],
 ⟨some 35,some (34,false),.fldA 6,[.t 2]⟩,
 ⟨some 36,some (34,false),.load none,[.t 35]⟩,
 ⟨some 37,some (34,false),.fldA 4,[.t 3]⟩,
 ⟨some 38,some (34,false),.load none,[.t 37]⟩,
 ⟨some 39,some (34,false),.call 150,[.t 36,.t 38]⟩,
 o 40 .pick [.t 34,.c (.bool true),.t 39],
 o 7 .mov [.t 40]])
 (.seq (.reg []
 [o 41 .mov [.t 5],
 o 42 .mov [.t 41],
 ⟨some 43,some (42,true),.mov,[.t 6]⟩,
 o 44 .pick [.t 42,.t 43,.c (.bool false)],
 o 45 .mov [.t 44],
 ⟨some 46,some (45,true),.mov,[.t 7]⟩,
 o 47 .pick [.t 45,.t 46,.c (.bool false)],
 o 48 .mov [.t 47],
 ⟨some 49,some (48,true),.fldA 3,[.t 3]⟩,
 ⟨some 50,some (48,true),.load none,[.t 49]⟩,
 ⟨some 51,some (48,true),.fldA 4,[.t 2]⟩,
 ⟨some 52,some (48,true),.load none,[.t 51]⟩,
 ⟨some 53,some (48,true),.fldA 5,[.t 2]⟩,
 ⟨some 54,some (48,true),.load none,[.t 53]⟩,
 ⟨some 55,some (48,true),.call 138,[.t 50,.t 52,.t 54]⟩,
 o 56 .pick [.t 48,.t 55,.c (.bool false)],
 o 4 .mov [.t 56]])
 .ret)))))
theorem i121:fnInfo Tryz.prog 121 = some (57,[.t 4],ac121):=by kernel_rfl
def ac122:AC :=
 .seq (.reg []
 [o 2 .box [.t 0],
 o 3 .box [.t 1],
 o 4 (.alloc [.int .u32 0,.int .i64 0,.int .i64 0,.int .i64 0,.int .u32 0]) []])
 (.seq (.seq (.reg []
 [o 5 (.fldA 7) [.t 2],
 o 6 (.load none) [.t 5],
 o 7 (.bin .neq .scal) [.t 6,.c (.int .i64 (-1))]])
 (.cond (.t 7)
 (.reg []
 [o 8 (.fldA 7) [.t 2],
 o 9 (.load none) [.t 8],
 o 10 (.fldA 3) [.t 3],
 ⟨none,none,.store 1,[.t 10,.t 9]⟩])
 .skip))
 (.seq (.seq (.reg []
 [o 11 (.fldA 9) [.t 2],
 o 12 (.load none) [.t 11],
 o 13 (.bin .neq .scal) [.t 12,.c (.int .i64 (-1))]])
 (.cond (.t 13)
 (.reg []
 [o 14 (.fldA 9) [.t 2],
 o 15 (.load none) [.t 14],
 o 16 (.fldA 2) [.t 3],
 ⟨none,none,.store 1,[.t 16,.t 15]⟩])
 .skip))
 (.seq (.seq (.reg []
 [o 17 (.fldA 10) [.t 2],
 o 18 (.load none) [.t 17]])
 (.cond (.t 18)
 (.reg []
 [o 19 (.fldA 11) [.t 2],
 o 20 (.load none) [.t 19],
 o 21 (.fldA 4) [.t 3],
 ⟨none,none,.store 1,[.t 21,.t 20]⟩])
 .skip))
 (.seq (.reg []
 [o 22 (.fldA 3) [.t 3],
 o 23 (.load none) [.t 22],
 o 24 (.fldA 8) [.t 2],
 o 25 (.load none) [.t 24],
 o 26 (.bin .add .scal) [.t 23,.t 25],
 o 27 (.minmax false) [.t 26,.c (.int .i64 16777215)],
 o 28 (.fldA 3) [.t 3],
 ⟨none,none,.store 1,[.t 28,.t 27]⟩])
 (.seq (.reg []
 [o 29 (.load (some 5)) [.t 3],
 ⟨none,none,.store 5,[.t 4,.t 29]⟩])
 .ret)))))
theorem i122:fnInfo Tryz.prog 122 = some (30,[.c 4 (some 5)],ac122):=by kernel_rfl
def ac123:AC :=
 .seq (.reg []
 [o 6 .mov [.c (.bool false)]])
 (.seq (.reg []
 [o 7 .mov [.t 1],
 o 8 .mov [.t 0],
 o 9 (.bin .leq .scal) [.t 7,.t 8],
 o 10 .mov [.t 9],
 ⟨some 11,some (10,true),.mov,[.t 0]⟩,
 ⟨some 12,some (10,true),.mov,[.t 2]⟩,
 ⟨some 13,some (10,true),.bin .leq .scal,[.t 11,.t 12]⟩,
 o 14 .pick [.t 10,.t 13,.c (.bool false)],
 o 6 .mov [.t 14]])
 .ret)
theorem i123:fnInfo Tryz.prog 123 = some (15,[.t 6],ac123):=by kernel_rfl
def ac124:AC :=
 .seq (.reg []
 [o 1 .box [.t 0],
 o 2 .mov [.c (.bool false)]])
 (.seq (.reg [[],[0],[1],[2,2],[3],[4,3],[3],[6,3],[7,3,3],[5,8,3],[9,3],[3,10],[11,8,0,1,2,3,4,5,6,7,8,9,10,11]]
 [o 3 (.fldA 1) [.t 1],
 o 4 (.load none) [.t 3],
 o 5 (.call 151) [.t 4],
 o 6 .mov [.t 5],
 ⟨some 7,some (6,true),.fldA 0,[.t 1]⟩,
 ⟨some 8,some (6,true),.load none,[.t 7]⟩,
 ⟨some 9,some (6,true),.fldA 1,[.t 1]⟩,
 ⟨some 10,some (6,true),.load none,[.t 9]⟩,
 ⟨some 11,some (6,true),.call 152,[.t 10]⟩,
 ⟨some 12,some (6,true),.bin .andNot .scal,[.t 8,.t 11]⟩,
 ⟨some 13,some (6,true),.bin .eql .scal,[.t 12,.c (.int .u32 0)]⟩,
 o 14 .pick [.t 6,.t 13,.c (.bool false)],
 o 2 .mov [.t 14]])
 .ret)
theorem i124:fnInfo Tryz.prog 124 = some (15,[.t 2],ac124):=by kernel_rfl
def ac125_1:AC :=
 .seq (.reg []
 [o 9 (.bin .lss .scal) [.t 8,.t 7]])
 (.seq (.cond (.t 9)
 .skip
 (.exit 0))
 (.seq (.block 1 (.seq (.reg []
 [o 10 (.idxA 1) [.t 6,.t 8],
 o 11 (.load none) [.t 10],
 o 5 .mov [.t 11]])
 (.seq (.reg []
 [o 12 .mov [.t 5],
 o 13 .mov [.t 3],
 o 14 (.bin .neq .scal) [.t 12,.t 13]])
 (.cond (.t 14)
 (.seq (.reg []
 [o 15 .mov [.t 5],
 o 2 .mov [.t 15]])
 .ret)
 .skip))))
 (.reg []
 [o 16 (.bin .add .scal) [.t 8,.c (.int .i64 1)],
 o 8 .mov [.t 16]])))
def ac125:AC :=
 .seq (.reg []
 [o 2 .mov [.c (.int .i64 0)]])
 (.seq (.reg []
 [o 3 .mov [.c (.int .i64 0)]])
 (.seq (.seq (.reg []
 [o 6 .mov [.t 0],
 o 7 .lenL [.t 6],
 o 8 .mov [.c (.int .i64 0)]])
 (.block 0 (.loop ac125_1)))
 (.seq (.reg []
 [o 17 .mov [.t 3],
 o 2 .mov [.t 17]])
 .ret)))
theorem i125:fnInfo Tryz.prog 125 = some (18,[.t 2],ac125):=by kernel_rfl
def ac126:AC :=
 .seq (.reg []
 [o 4 .mov [.c (.int .i64 0)]])
 (.seq (.reg []
 [o 7 .mov [.t 0],
 o 8 (.call 153) [.t 7],
 o 5 .mov [.t 8]])
 (.seq (.reg []
 [o 9 .mov [.t 1],
 o 10 (.call 153) [.t 9],
 o 6 .mov [.t 10]])
 (.seq (.seq (.reg []
 [o 11 .mov [.t 5]])
 (.cond (.t 11)
 (.seq (.seq (.reg []
 [o 12 .mov [.t 6]])
 (.cond (.t 12)
 (.seq (.reg []
 [o 4 .mov [.c (.int .i64 0)]])
 .ret)
 .skip))
 (.seq (.reg []
 [o 4 .mov [.c (.int .i64 (-1))]])
 .ret))
 .skip))
 (.seq (.seq (.reg []
 [o 13 .mov [.t 6]])
 (.cond (.t 13)
 (.seq (.reg []
 [o 4 .mov [.c (.int .i64 1)]])
 .ret)
 .skip))
 (.seq (.seq (.reg []
 [o 14 .mov [.t 0],
 o 15 .mov [.t 1],
 o 16 (.bin .lss .scal) [.t 14,.t 15]])
 (.cond (.t 16)
 (.seq (.reg []
 [o 4 .mov [.c (.int .i64 (-1))]])
 .ret)
 .skip))
 (.seq (.seq (.reg []
 [o 17 .mov [.t 0],
 o 18 .mov [.t 1],
 o 19 (.bin .gtr .scal) [.t 17,.t 18]])
 (.cond (.t 19)
 (.seq (.reg []
 [o 4 .mov [.c (.int .i64 1)]])
 .ret)
 .skip))
 (.seq (.reg []
 [o 4 .mov [.c (.int .i64 0)]])
 .ret)))))))
theorem i126:fnInfo Tryz.prog 126 = some (20,[.t 4],ac126):=by kernel_rfl
def ac127:AC :=
 .seq (.reg []
 [o 4 .mov [.c (.int .i64 0)]])
 (.seq (.reg []
 [o 7 .mov [.t 0],
 o 8 (.call 154) [.t 7],
 o 5 .mov [.t 8]])
 (.seq (.reg []
 [o 9 .mov [.t 1],
 o 10 (.call 154) [.t 9],
 o 6 .mov [.t 10]])
 (.seq (.seq (.reg []
 [o 11 .mov [.t 5]])
 (.cond (.t 11)
 (.seq (.seq (.reg []
 [o 12 .mov [.t 6]])
 (.cond (.t 12)
 (.seq (.reg []
 [o 4 .mov [.c (.int .i64 0)]])
 .ret)
 .skip))
 (.seq (.reg []
 [o 4 .mov [.c (.int .i64 (-1))]])
 .ret))
 .skip))
 (.seq (.seq (.reg []
 [o 13 .mov [.t 6]])
 (.cond (.t 13)
 (.seq (.reg []
 [o 4 .mov [.c (.int .i64 1)]])
 .ret)
 .skip))
 (.seq (.seq (.reg []
 [o 14 .mov [.t 0],
 o 15 .mov [.t 1],
 o 16 (.bin .lss .scal) [.t 14,.t 15]])
 (.cond (.t 16)
 (.seq (.reg []
 [o 4 .mov [.c (.int .i64 (-1))]])
 .ret)
 .skip))
 (.seq (.seq (.reg []
 [o 17 .mov [.t 0],
 o 18 .mov [.t 1],
 o 19 (.bin .gtr .scal) [.t 17,.t 18]])
 (.cond (.t 19)
 (.seq (.reg []
 [o 4 .mov [.c (.int .i64 1)]])
 .ret)
 .skip))
 (.seq (.reg []
 [o 4 .mov [.c (.int .i64 0)]])
 .ret)))))))
theorem i127:fnInfo Tryz.prog 127 = some (20,[.t 4],ac127):=by kernel_rfl
def ac128:AC :=
 .seq (.reg []
 [o 1 .box [.t 0],
 o 2 .mov [.c (.int .i64 0)]])
 (.seq (.seq (.reg []
 [o 3 (.fldA 7) [.t 1],
 o 4 (.load none) [.t 3]])
 (.cond (.t 4)
 (.seq (.reg []
 [o 2 .mov [.c (.int .i64 1)]])
 .ret)
 .skip))
 (.seq (.reg []
 [o 2 .mov [.c (.int .i64 0)]])
 .ret))
theorem i128:fnInfo Tryz.prog 128 = some (5,[.t 2],ac128):=by kernel_rfl
def ac138:AC :=
 .seq (.reg []
 [o 6 .mov [.c (.bool false)]])
 (.seq (.reg []
 [o 7 .mov [.t 1],
 o 8 .mov [.t 0],
 o 9 (.bin .leq .scal) [.t 7,.t 8],
 o 10 .mov [.t 9],
 ⟨some 11,some (10,true),.mov,[.t 0]⟩,
 ⟨some 12,some (10,true),.mov,[.t 2]⟩,
 ⟨some 13,some (10,true),.bin .leq .scal,[.t 11,.t 12]⟩,
 o 14 .pick [.t 10,.t 13,.c (.bool false)],
 o 6 .mov [.t 14]])
 .ret)
theorem i138:fnInfo Tryz.prog 138 = some (15,[.t 6],ac138):=by kernel_rfl
def ac139:AC :=
 .seq (.reg []
 [o 2 .mov [.c (.bool false)]])
 (.seq (.reg []
 [o 3 .mov [.f 160]])
 (.seq (.reg []
 [o 4 .mov [.t 0],
 o 5 .mov [.t 3],
 o 6 (.call 162) [.t 4,.t 5],
 o 7 .unNot [.t 6],
 o 8 .mov [.t 7],
 ⟨some 9,some (8,true),.mov,[.t 0]⟩,
 ⟨some 10,some (8,true),.call 163,[.t 9,.f 164]⟩,
 o 11 .pick [.t 8,.t 10,.c (.bool false)],
 o 2 .mov [.t 11]])
 .ret))
theorem i139:fnInfo Tryz.prog 139 = some (12,[.t 2],ac139):=by kernel_rfl
def ac142:AC :=
 .seq (.reg []
 [o 2 .box [.t 0],
 o 3 .mov [.c (.bool false)]])
 (.seq (.reg []
 [o 4 (.fldA 0) [.t 2],
 o 5 (.load (some 2)) [.t 4],
 o 6 (.load (some 2)) [.t 1],
 o 7 (.bin .eql (.flat [.int .u32,.int .i64])) [.t 5,.t 6],
 o 3 .mov [.t 7]])
 .ret)
theorem i142:fnInfo Tryz.prog 142 = some (8,[.t 3],ac142):=by kernel_rfl
def ac143_1:AC :=
 .seq (.seq (.reg []
 [o 15 .mov [.t 9],
 o 16 .mov [.t 10],
 o 17 (.bin .lss .scal) [.t 15,.t 16]])
 (.cond (.t 17)
 .skip
 (.exit 0)))
 (.block 1 (.seq (.reg []
 [o 18 .mov [.t 9],
 o 19 .mov [.t 10],
 o 20 (.bin .add .scal) [.t 18,.t 19],
 o 21 (.conv .u64) [.t 20],
 o 22 (.bin .shr .scal) [.t 21,.c (.int .u64 1)],
 o 23 (.conv .i64) [.t 22],
 o 11 .mov [.t 23]])
 (.seq (.reg [[],[],[],[1,2],[3],[],[0,4,5],[6]]
 [o 24 .mov [.t 2],
 o 25 .mov [.t 0],
 o 26 .mov [.t 11],
 o 27 (.idxA 10) [.t 25,.t 26],
 o 28 (.load (some 10)) [.t 27],
 o 29 (.load (some 2)) [.t 4],
 o 30 .callv [.t 24,.t 28,.t 29],
 o 31 (.bin .lss .scal) [.t 30,.c (.int .i64 0)]])
 (.cond (.t 31)
 (.reg []
 [o 32 .mov [.t 11],
 o 33 (.bin .add .scal) [.t 32,.c (.int .i64 1)],
 o 9 .mov [.t 33]])
 (.reg []
 [o 34 .mov [.t 11],
 o 10 .mov [.t 34]])))))
def ac143:AC :=
 .seq (.reg []
 [o 4 .box [.t 1],
 o 6 .mov [.c (.int .i64 0)],
 o 7 .mov [.c (.bool false)]])
 (.seq (.reg []
 [o 12 .mov [.t 0],
 o 13 .lenL [.t 12],
 o 8 .mov [.t 13]])
 (.seq (.reg []
 [o 14 .mov [.t 8],
 o 9 .mov [.c (.int .i64 0)],
 o 10 .mov [.t 14]])
 (.seq (.block 0 (.loop ac143_1))
 (.seq (.reg [[],[],[],[1,2],[3],[4],[4],[4],[6,7,4],[8,4],[4],[5,9,10,4,4],[11,4],[4,12],[0,11,0],[13,14,0,1,2,3,4,5,6,7,8,9,10,11,12,13,14]]
 [o 35 .mov [.t 9],
 o 36 .mov [.t 9],
 o 37 .mov [.t 8],
 o 38 (.bin .lss .scal) [.t 36,.t 37],
 o 39 .mov [.t 38],
 ⟨some 40,some (39,true),.mov,[.t 2]⟩,
 ⟨some 41,some (39,true),.mov,[.t 0]⟩,
 ⟨some 42,some (39,true),.mov,[.t 9]⟩,
 ⟨some 43,some (39,true),.idxA 10,[.t 41,.t 42]⟩,
 ⟨some 44,some (39,true),.load (some 10),[.t 43]⟩,
 ⟨some 45,some (39,true),.load (some 2),[.t 4]⟩,
 ⟨some 46,some (39,true),.callv,[.t 40,.t 44,.t 45]⟩,
 ⟨some 47,some (39,true),.bin .eql .scal,[.t 46,.c (.int .i64 0)]⟩,
 o 48 .pick [.t 39,.t 47,.c (.bool false)],
 o 6 .mov [.t 35],
 o 7 .mov [.t 48]])
 .ret))))
theorem i143:fnInfo Tryz.prog 143 = some (49,[.t 6,.t 7],ac143):=by kernel_rfl
def ac144:AC :=
 .seq (.reg []
 [o 2 .box [.t 0],
 o 3 .box [.t 1],
 o 4 .mov [.c (.int .i64 0)]])
 (.seq (.reg [[],[0],[1],[],[3],[2,4],[],[6],[7],[],[9],[8,10,5],[5,11],[12,11],[13,13,0,1,2,3,4,5,6,7,8,9,10,11,12,13]]
 [o 5 (.fldA 0) [.t 2],
 o 6 (.fldA 0) [.t 5],
 o 7 (.load none) [.t 6],
 o 8 (.fldA 0) [.t 3],
 o 9 (.load none) [.t 8],
 o 10 (.call 126) [.t 7,.t 9],
 o 11 (.fldA 0) [.t 2],
 o 12 (.fldA 1) [.t 11],
 o 13 (.load none) [.t 12],
 o 14 (.fldA 1) [.t 3],
 o 15 (.load none) [.t 14],
 o 16 (.call 127) [.t 13,.t 15],
 o 17 (.bslice 1 3) [.t 10,.t 16],
 o 18 (.call 125) [.t 17],
 o 4 .mov [.t 18]])
 .ret)
theorem i144:fnInfo Tryz.prog 144 = some (19,[.t 4],ac144):=by kernel_rfl
def ac148_1:AC :=
 .seq (.reg []
 [o 17 (.bin .lss .scal) [.t 16,.t 15]])
 (.seq (.cond (.t 17)
 .skip
 (.exit 0))
 (.seq (.block 1 (.seq (.reg []
 [o 18 .mov [.t 16],
 o 19 (.idxA 10) [.t 14,.t 16],
 o 20 (.load (some 10)) [.t 19],
 o 8 (.alloc [.int .u32 0,.int .i64 0,.int .i64 0,.int .i64 0,.int .i64 0,.int .i64 0,.int .u32 0,.bool false,.int .i64 0,.nils]) [],
 o 7 .mov [.t 18],
 ⟨none,none,.store 10,[.t 8,.t 20]⟩])
 (.seq (.reg [[],[0],[1],[2],[3],[4,3],[5,3],[3,6],[7,3],[8],[9,8],[8],[11,8],[10,12,8,8],[8,13],[14,13],[15],[16,15],[17,15,15],[18],[19,18],[20,18],[18],[22,18],[18],[23,24,18],[25,18],[26,18],[27,18],[21,28,18],[18,29,15],[15,30]]
 [o 21 (.fldA 2) [.t 8],
 o 22 (.load none) [.t 21],
 o 23 (.bin .eql .scal) [.t 22,.c (.int .i64 0)],
 o 24 .mov [.t 23],
 ⟨some 25,some (24,true),.fldA 7,[.t 8]⟩,
 ⟨some 26,some (24,true),.load none,[.t 25]⟩,
 ⟨some 27,some (24,true),.unNot,[.t 26]⟩,
 o 28 .pick [.t 24,.t 27,.c (.bool false)],
 o 29 .mov [.t 28],
 ⟨some 30,some (29,true),.fldA 0,[.t 8]⟩,
 ⟨some 31,some (29,true),.load (some 2),[.t 30]⟩,
 ⟨some 32,some (29,true),.fldA 1,[.t 3]⟩,
 ⟨some 33,some (29,true),.load none,[.t 32]⟩,
 ⟨some 34,some (29,true),.call 167,[.t 31,.t 33]⟩,
 o 35 .pick [.t 29,.t 34,.c (.bool false)],
 o 36 .mov [.t 35],
 ⟨some 37,some (36,true),.mov,[.t 6]⟩,
 ⟨some 38,some (36,true),.bin .lss .scal,[.t 37,.c (.int .i64 0)]⟩,
 ⟨some 39,some (36,true),.mov,[.t 38]⟩,
 ⟨some 40,some (39,false),.fldA 0,[.t 8]⟩,
 ⟨some 41,some (39,false),.fldA 1,[.t 40]⟩,
 ⟨some 42,some (39,false),.load none,[.t 41]⟩,
 ⟨some 43,some (39,false),.fldA 0,[.t 2]⟩,
 ⟨some 44,some (39,false),.load none,[.t 43]⟩,
 ⟨some 45,some (39,false),.mov,[.t 6]⟩,
 ⟨some 46,some (39,false),.idxA 10,[.t 44,.t 45]⟩,
 ⟨some 47,some (39,false),.fldA 0,[.t 46]⟩,
 ⟨some 48,some (39,false),.fldA 1,[.t 47]⟩,
 ⟨some 49,some (39,false),.load none,[.t 48]⟩,
 ⟨some 50,some (39,false),.bin .gtr .scal,[.t 42,.t 49]⟩,
 ⟨some 51,some (36,true),.pick,[.t 39,.c (.bool true),.t 50]⟩,
 o 52 .pick [.t 36,.t 51,.c (.bool false)]])
 (.cond (.t 52)
 (.reg []
 [o 53 .mov [.t 7],
 o 6 .mov [.t 53]])
 .skip))))
 (.reg []
 [o 54 (.bin .add .scal) [.t 16,.c (.int .i64 1)],
 o 16 .mov [.t 54]])))
def ac148:AC :=
 .seq (.reg []
 [o 2 .box [.t 0],
 o 3 .box [.t 1],
 o 4 (.alloc [.int .i64 0,.int .u32 0]) [],
 o 5 .mov [.c (.bool false)]])
 (.seq (.seq (.reg []
 [o 9 (.fldA 1) [.t 3],
 o 10 (.load none) [.t 9],
 o 11 (.bin .eql .scal) [.t 10,.c (.int .u32 0)]])
 (.cond (.t 11)
 (.seq (.reg []
 [o 12 (.load (some 2)) [.t 3],
 ⟨none,none,.store 2,[.t 4,.t 12]⟩,
 o 5 .mov [.c (.bool true)]])
 .ret)
 .skip))
 (.seq (.reg []
 [o 6 .mov [.c (.int .i64 (-1))]])
 (.seq (.seq (.reg []
 [o 13 (.fldA 0) [.t 2],
 o 14 (.load none) [.t 13],
 o 15 .lenL [.t 14],
 o 16 .mov [.c (.int .i64 0)]])
 (.block 0 (.loop ac148_1)))
 (.seq (.seq (.reg []
 [o 55 .mov [.t 6],
 o 56 (.bin .lss .scal) [.t 55,.c (.int .i64 0)]])
 (.cond (.t 56)
 (.seq (.reg []
 [o 57 (.build [.int .i64 0,.int .u32 0] []) [],
 ⟨none,none,.store 2,[.t 4,.t 57]⟩,
 o 5 .mov [.c (.bool false)]])
 .ret)
 .skip))
 (.seq (.reg [[],[0],[],[1,2],[3],[4],[5],[6],[7],[],[9],[8,10],[11,0,1,2,3,4,5,6,7,8,9,10,11],[12,0,1,2,3,4,5,6,7,8,9,10,11,12]]
 [o 58 (.fldA 0) [.t 2],
 o 59 (.load none) [.t 58],
 o 60 .mov [.t 6],
 o 61 (.idxA 10) [.t 59,.t 60],
 o 62 (.fldA 9) [.t 61],
 o 63 (.load none) [.t 62],
 o 64 (.idxA 2) [.t 63,.c (.int .i64 0)],
 o 65 (.fldA 0) [.t 64],
 o 66 (.load none) [.t 65],
 o 67 (.fldA 1) [.t 3],
 o 68 (.load none) [.t 67],
 o 69 (.build [.int .i64 0,.int .u32 0] [(0,1),(1,1)]) [.t 66,.t 68],
 ⟨none,none,.store 2,[.t 4,.t 69]⟩,
 o 5 .mov [.c (.bool true)]])
 .ret)))))
theorem i148:fnInfo Tryz.prog 148 = some (70,[.c 4 (some 2),.t 5],ac148):=by kernel_rfl
def ac149:AC :=
 .seq (.reg []
 [o 3 .box [.t 1],
 o 4 .mov [.c (.bool false)],
 o 5 .mov [.c (.int .i64 0)]])
 (.seq (.reg []
 [o 7 .mov [.t 0],
 o 8 (.mkfn 169 0) [.t 3],
 o 9 (.call 168) [.t 7,.t 8],
 o 6 .mov [.t 9]])
 (.seq (.seq (.reg []
 [o 10 .mov [.t 6],
 o 11 (.bin .lss .scal) [.t 10,.c (.int .i64 0)]])
 (.cond (.t 11)
 (.seq (.reg []
 [o 4 .mov [.c (.bool false)],
 o 5 .mov [.c (.int .i64 0)]])
 .ret)
 .skip))
 (.seq (.reg [[],[],[0,1],[2],[3],[],[],[5,6],[7],[8],[4,0,1,2,3,4],[9,10,0,1,2,3,4,5,6,7,8,9,10]]
 [o 12 .mov [.t 0],
 o 13 .mov [.t 6],
 o 14 (.idxA 6) [.t 12,.t 13],
 o 15 (.fldA 1) [.t 14],
 o 16 (.load none) [.t 15],
 o 17 .mov [.t 0],
 o 18 .mov [.t 6],
 o 19 (.idxA 6) [.t 17,.t 18],
 o 20 (.fldA 0) [.t 19],
 o 21 (.load none) [.t 20],
 o 4 .mov [.t 16],
 o 5 .mov [.t 21]])
 .ret)))
theorem i149:fnInfo Tryz.prog 149 = some (22,[.t 4,.t 5],ac149):=by kernel_rfl
def ac150:AC :=
 .seq (.reg []
 [o 4 .mov [.c (.bool false)]])
 (.seq (.reg []
 [o 5 .mov [.t 0],
 o 6 .mov [.t 1],
 o 7 (.call 171) [.t 5,.t 6],
 o 8 (.bin .geq .scal) [.t 7,.c (.int .i64 0)],
 o 4 .mov [.t 8]])
 .ret)
theorem i150:fnInfo Tryz.prog 150 = some (9,[.t 4],ac150):=by kernel_rfl
def ac151:AC :=
 .seq (.reg []
 [o 2 .mov [.c (.bool false)]])
 (.seq (.reg []
 [o 3 .mov [.t 0],
 o 4 (.bin .geq .scal) [.t 3,.c (.int .i64 0)],
 o 5 .mov [.t 4],
 ⟨some 6,some (5,true),.mov,[.t 0]⟩,
 ⟨some 7,some (5,true),.bin .leq .scal,[.t 6,.c (.int .i64 32)]⟩,
 o 8 .pick [.t 5,.t 7,.c (.bool false)],
 o 2 .mov [.t 8]])
 .ret)
theorem i151:fnInfo Tryz.prog 151 = some (9,[.t 2],ac151):=by kernel_rfl
def ac152:AC :=
 .seq (.reg []
 [o 2 .mov [.c (.int .u32 0)]])
 (.seq (.reg []
 [o 3 .mov [.t 0],
 o 4 (.minmax true) [.t 3,.c (.int .i64 0)],
 o 5 (.minmax false) [.t 4,.c (.int .i64 32)],
 o 0 .mov [.t 5]])
 (.seq (.reg []
 [o 6 .mov [.t 0],
 o 7 (.bin .sub .scal) [.c (.int .i64 32),.t 6],
 o 8 (.bin .shl .scal) [.c (.int .u64 4294967295),.t 7],
 o 9 (.conv .u32) [.t 8],
 o 2 .mov [.t 9]])
 .ret))
theorem i152:fnInfo Tryz.prog 152 = some (10,[.t 2],ac152):=by kernel_rfl
def ac153:AC :=
 .seq (.reg []
 [o 2 .mov [.c (.bool false)]])
 (.seq (.reg []
 [o 3 .mov [.t 0],
 o 4 .mov [.t 0],
 o 5 (.bin .neq .scal) [.t 3,.t 4],
 o 2 .mov [.t 5]])
 .ret)
theorem i153:fnInfo Tryz.prog 153 = some (6,[.t 2],ac153):=by kernel_rfl
def ac154:AC :=
 .seq (.reg []
 [o 2 .mov [.c (.bool false)]])
 (.seq (.reg []
 [o 3 .mov [.t 0],
 o 4 .mov [.t 0],
 o 5 (.bin .neq .scal) [.t 3,.t 4],
 o 2 .mov [.t 5]])
 .ret)
theorem i154:fnInfo Tryz.prog 154 = some (6,[.t 2],ac154):=by kernel_rfl
def ac160:AC :=
 .seq (.reg []
 [o 1 .box [.t 0],
 o 2 .mov [.c (.bool false)]])
 (.seq (.reg []
 [o 3 (.load (some 6)) [.t 1],
 o 4 (.call 161) [.t 3],
 o 5 .unNot [.t 4],
 o 2 .mov [.t 5]])
 .ret)
theorem i160:fnInfo Tryz.prog 160 = some (6,[.t 2],ac160):=by kernel_rfl
def ac161:AC :=
 .seq (.reg []
 [o 1 .box [.t 0],
 o 2 .mov [.c (.bool false)]])
 (.seq (.seq (.reg []
 [o 5 (.fldA 0) [.t 1],
 o 6 (.load none) [.t 5],
 o 7 (.bin .lss .scal) [.t 6,.c (.int .i64 1)],
 o 8 .mov [.t 7],
 ⟨some 9,some (8,false),.fldA 0,[.t 1]⟩,
 ⟨some 10,some (8,false),.load none,[.t 9]⟩,
 ⟨some 11,some (8,false),.bin .gtr .scal,[.t 10,.c (.int .i64 65535)]⟩,
 o 12 .pick [.t 8,.c (.bool true),.t 11],
 o 13 .mov [.t 12],
 ⟨some 14,some (13,false),.fldA 2,[.t 1]⟩,
 ⟨some 15,some (13,false),.load (some 2),[.t 14]⟩,
 ⟨some 16,some (13,false),.call 124,[.t 15]⟩,
 ⟨some 17,some (13,false),.unNot,[.t 16]⟩,
 o 18 .pick [.t 13,.c (.bool true),.t 17]])
 (.cond (.t 18)
 (.seq (.reg []
 [o 2 .mov [.c (.bool false)]])
 .ret)
 .skip))
 (.seq (.reg []
 [o 19 (.fldA 4) [.t 1],
 o 20 (.load none) [.t 19],
 o 21 (.bin .eql .scal) [.t 20,.c (.int .i64 0)],
 o 22 .mov [.t 21],
 ⟨some 23,some (22,false),.fldA 4,[.t 1]⟩,
 ⟨some 24,some (22,false),.load none,[.t 23]⟩,
 ⟨some 25,some (22,false),.fldA 2,[.t 1]⟩,
 ⟨some 26,some (22,false),.fldA 1,[.t 25]⟩,
 ⟨some 27,some (22,false),.load none,[.t 26]⟩,
 ⟨some 28,some (22,false),.bin .gtr .scal,[.t 24,.t 27]⟩,
 ⟨some 29,some (22,false),.mov,[.t 28]⟩,
 ⟨some 30,some (29,true),.fldA 4,[.t 1]⟩,
 ⟨some 31,some (29,true),.load none,[.t 30]⟩,
 ⟨some 32,some (29,true),.bin .leq .scal,[.t 31,.c (.int .i64 32)]⟩,
 ⟨some 33,some (22,false),.pick,[.t 29,.t 32,.c (.bool false)]⟩,
 o 34 .pick [.t 22,.c (.bool true),.t 33],
 o 3 .mov [.t 34]])
 (.seq (.reg []
 [o 35 (.fldA 5) [.t 1],
 o 36 (.load none) [.t 35],
 o 37 (.bin .eql .scal) [.t 36,.c (.int .i64 0)],
 o 38 .mov [.t 37],
 ⟨some 39,some (38,false),.fldA 5,[.t 1]⟩,
 ⟨some 40,some (38,false),.load none,[.t 39]⟩,
 ⟨some 41,some (38,false),.fldA 4,[.t 1]⟩,
 ⟨some 42,some (38,false),.load none,[.t 41]⟩,
 ⟨some 43,some (38,false),.fldA 2,[.t 1]⟩,
 ⟨some 44,some (38,false),.fldA 1,[.t 43]⟩,
 ⟨some 45,some (38,false),.load none,[.t 44]⟩,
 ⟨some 46,some (38,false),.minmax true,[.t 42,.t 45]⟩,
 ⟨some 47,some (38,false),.bin .geq .scal,[.t 40,.t 46]⟩,
 ⟨some 48,some (38,false),.mov,[.t 47]⟩,
 ⟨some 49,some (48,true),.fldA 5,[.t 1]⟩,
 ⟨some 50,some (48,true),.load none,[.t 49]⟩,
 ⟨some 51,some (48,true),.bin .leq .scal,[.t 50,.c (.int .i64 32)]⟩,
 ⟨some 52,some (38,false),.pick,[.t 48,.t 51,.c (.bool false)]⟩,
 o 53 .pick [.t 38,.c (.bool true),.t 52],
 o 4 .mov [.t 53]])
 (.seq (.reg []
 [o 54 .mov [.t 3],
 o 55 .mov [.t 54],
 ⟨some 56,some (55,true),.mov,[.t 4]⟩,
 o 57 .pick [.t 55,.t 56,.c (.bool false)],
 o 2 .mov [.t 57]])
 .ret))))
theorem i161:fnInfo Tryz.prog 161 = some (58,[.t 2],ac161):=by kernel_rfl
def ac162:AC :=
 .seq (.reg []
 [o 4 .mov [.c (.bool false)]])
 (.seq (.reg []
 [o 5 .mov [.t 0],
 o 6 .mov [.t 1],
 o 7 (.call 168) [.t 5,.t 6],
 o 8 (.bin .geq .scal) [.t 7,.c (.int .i64 0)],
 o 4 .mov [.t 8]])
 .ret)
theorem i162:fnInfo Tryz.prog 162 = some (9,[.t 4],ac162):=by kernel_rfl
def ac163_1:AC :=
 .seq (.reg []
 [o 9 (.bin .lss .scal) [.t 8,.t 7]])
 (.seq (.cond (.t 9)
 .skip
 (.exit 0))
 (.seq (.block 1 (.seq (.reg []
 [o 10 .mov [.t 8],
 o 5 .mov [.t 10]])
 (.seq (.reg [[],[0],[1],[2],[2],[2],[4,5,2],[6,2],[3,7,2,2],[2],[2],[2],[11,2],[10,12,2],[13,2],[9,14,8,2],[8,15,2],[2,16]]
 [o 11 .mov [.t 5],
 o 12 (.bin .gtr .scal) [.t 11,.c (.int .i64 0)],
 o 13 .mov [.t 12],
 ⟨some 14,some (13,true),.mov,[.t 1]⟩,
 ⟨some 15,some (13,true),.mov,[.t 0]⟩,
 ⟨some 16,some (13,true),.mov,[.t 5]⟩,
 ⟨some 17,some (13,true),.idxA 6,[.t 15,.t 16]⟩,
 ⟨some 18,some (13,true),.load (some 6),[.t 17]⟩,
 ⟨some 19,some (13,true),.callv,[.t 14,.t 18]⟩,
 ⟨some 20,some (13,true),.mov,[.t 1]⟩,
 ⟨some 21,some (13,true),.mov,[.t 0]⟩,
 ⟨some 22,some (13,true),.mov,[.t 5]⟩,
 ⟨some 23,some (13,true),.bin .sub .scal,[.t 22,.c (.int .i64 1)]⟩,
 ⟨some 24,some (13,true),.idxA 6,[.t 21,.t 23]⟩,
 ⟨some 25,some (13,true),.load (some 6),[.t 24]⟩,
 ⟨some 26,some (13,true),.callv,[.t 20,.t 25]⟩,
 ⟨some 27,some (13,true),.bin .leq .scal,[.t 19,.t 26]⟩,
 o 28 .pick [.t 13,.t 27,.c (.bool false)]])
 (.cond (.t 28)
 (.seq (.reg []
 [o 4 .mov [.c (.bool false)]])
 .ret)
 .skip))))
 (.reg []
 [o 29 (.bin .add .scal) [.t 8,.c (.int .i64 1)],
 o 8 .mov [.t 29]])))
def ac163:AC :=
 .seq (.reg []
 [o 4 .mov [.c (.bool false)]])
 (.seq (.seq (.reg []
 [o 6 .mov [.t 0],
 o 7 .lenL [.t 6],
 o 8 .mov [.c (.int .i64 0)]])
 (.block 0 (.loop ac163_1)))
 (.seq (.reg []
 [o 4 .mov [.c (.bool true)]])
 .ret))
theorem i163:fnInfo Tryz.prog 163 = some (30,[.t 4],ac163):=by kernel_rfl
def ac164:AC :=
 .seq (.reg []
 [o 1 .box [.t 0],
 o 2 .mov [.c (.int .i64 0)]])
 (.seq (.reg []
 [o 3 (.fldA 0) [.t 1],
 o 4 (.load none) [.t 3],
 o 2 .mov [.t 4]])
 .ret)
theorem i164:fnInfo Tryz.prog 164 = some (5,[.t 2],ac164):=by kernel_rfl
def ac167:AC :=
 .seq (.reg []
 [o 2 .box [.t 0],
 o 4 .mov [.c (.bool false)]])
 (.seq (.reg [[],[0],[1,1],[2],[2],[4,2],[5,2,2],[3,6,2],[2],[8,2],[7,9,2],[2,10],[11,6,0,1,2,3,4,5,6,7,8,9,10,11]]
 [o 5 (.load (some 2)) [.t 2],
 o 6 (.call 124) [.t 5],
 o 7 .mov [.t 6],
 ⟨some 8,some (7,true),.mov,[.t 1]⟩,
 ⟨some 9,some (7,true),.fldA 1,[.t 2]⟩,
 ⟨some 10,some (7,true),.load none,[.t 9]⟩,
 ⟨some 11,some (7,true),.call 152,[.t 10]⟩,
 ⟨some 12,some (7,true),.bin .and .scal,[.t 8,.t 11]⟩,
 ⟨some 13,some (7,true),.fldA 0,[.t 2]⟩,
 ⟨some 14,some (7,true),.load none,[.t 13]⟩,
 ⟨some 15,some (7,true),.bin .eql .scal,[.t 12,.t 14]⟩,
 o 16 .pick [.t 7,.t 15,.c (.bool false)],
 o 4 .mov [.t 16]])
 .ret)
theorem i167:fnInfo Tryz.prog 167 = some (17,[.t 4],ac167):=by kernel_rfl
def ac168_1:AC :=
 .seq (.reg []
 [o 9 (.bin .lss .scal) [.t 8,.t 7]])
 (.seq (.cond (.t 9)
 .skip
 (.exit 0))
 (.seq (.block 1 (.seq (.reg []
 [o 10 .mov [.t 8],
 o 5 .mov [.t 10]])
 (.seq (.reg []
 [o 11 .mov [.t 1],
 o 12 .mov [.t 0],
 o 13 .mov [.t 5],
 o 14 (.idxA 6) [.t 12,.t 13],
 o 15 (.load (some 6)) [.t 14],
 o 16 .callv [.t 11,.t 15]])
 (.cond (.t 16)
 (.seq (.reg []
 [o 17 .mov [.t 5],
 o 4 .mov [.t 17]])
 .ret)
 .skip))))
 (.reg []
 [o 18 (.bin .add .scal) [.t 8,.c (.int .i64 1)],
 o 8 .mov [.t 18]])))
def ac168:AC :=
 .seq (.reg []
 [o 4 .mov [.c (.int .i64 0)]])
 (.seq (.seq (.reg []
 [o 6 .mov [.t 0],
 o 7 .lenL [.t 6],
 o 8 .mov [.c (.int .i64 0)]])
 (.block 0 (.loop ac168_1)))
 (.seq (.reg []
 [o 4 .mov [.c (.int .i64 (-1))]])
 .ret))
theorem i168:fnInfo Tryz.prog 168 = some (19,[.t 4],ac168):=by kernel_rfl
def ac169:AC :=
 .seq (.reg []
 [o 2 .box [.t 0],
 o 3 .mov [.c (.bool false)]])
 (.seq (.reg []
 [o 4 (.load (some 6)) [.t 2],
 o 5 (.load (some 2)) [.t 1],
 o 6 (.call 170) [.t 4,.t 5],
 o 3 .mov [.t 6]])
 .ret)
theorem i169:fnInfo Tryz.prog 169 = some (7,[.t 3],ac169):=by kernel_rfl
def ac170:AC :=
 .seq (.reg []
 [o 2 .box [.t 0],
 o 3 .box [.t 1],
 o 4 .mov [.c (.bool false)]])
 (.seq (.reg []
 [o 8 (.load (some 6)) [.t 2],
 o 9 (.call 176) [.t 8],
 o 7 .mov [.t 9],
 o 10 (.ext 0) [.t 7],
 o 11 (.ext 1) [.t 7],
 o 5 .mov [.t 10],
 o 6 .mov [.t 11]])
 (.seq (.reg []
 [o 12 (.load (some 6)) [.t 2],
 o 13 (.call 161) [.t 12],
 o 14 .mov [.t 13],
 ⟨some 15,some (14,true),.fldA 2,[.t 2]⟩,
 ⟨some 16,some (14,true),.load (some 2),[.t 15]⟩,
 ⟨some 17,some (14,true),.load (some 2),[.t 3]⟩,
 ⟨some 18,some (14,true),.call 177,[.t 16,.t 17]⟩,
 o 19 .pick [.t 14,.t 18,.c (.bool false)],
 o 20 .mov [.t 19],
 ⟨some 21,some (20,true),.fldA 1,[.t 3]⟩,
 ⟨some 22,some (20,true),.load none,[.t 21]⟩,
 ⟨some 23,some (20,true),.mov,[.t 5]⟩,
 ⟨some 24,some (20,true),.bin .geq .scal,[.t 22,.t 23]⟩,
 o 25 .pick [.t 20,.t 24,.c (.bool false)],
 o 26 .mov [.t 25],
 ⟨some 27,some (26,true),.fldA 1,[.t 3]⟩,
 ⟨some 28,some (26,true),.load none,[.t 27]⟩,
 ⟨some 29,some (26,true),.mov,[.t 6]⟩,
 ⟨some 30,some (26,true),.bin .leq .scal,[.t 28,.t 29]⟩,
 o 31 .pick [.t 26,.t 30,.c (.bool false)],
 o 4 .mov [.t 31]])
 .ret))
theorem i170:fnInfo Tryz.prog 170 = some (32,[.t 4],ac170):=by kernel_rfl
def ac171_1:AC :=
 .seq (.reg []
 [o 9 (.bin .lss .scal) [.t 8,.t 7]])
 (.seq (.cond (.t 9)
 .skip
 (.exit 0))
 (.seq (.block 1 (.seq (.reg []
 [o 10 .mov [.t 8],
 o 5 .mov [.t 10]])
 (.seq (.reg []
 [o 11 .mov [.t 1],
 o 12 .mov [.t 0],
 o 13 .mov [.t 5],
 o 14 (.idxA 1) [.t 12,.t 13],
 o 15 (.load none) [.t 14],
 o 16 (.bin .eql .scal) [.t 11,.t 15]])
 (.cond (.t 16)
 (.seq (.reg []
 [o 17 .mov [.t 5],
 o 4 .mov [.t 17]])
 .ret)
 .skip))))
 (.reg []
 [o 18 (.bin .add .scal) [.t 8,.c (.int .i64 1)],
 o 8 .mov [.t 18]])))
def ac171:AC :=
 .seq (.reg []
 [o 4 .mov [.c (.int .i64 0)]])
 (.seq (.seq (.reg []
 [o 6 .mov [.t 0],
 o 7 .lenL [.t 6],
 o 8 .mov [.c (.int .i64 0)]])
 (.block 0 (.loop ac171_1)))
 (.seq (.reg []
 [o 4 .mov [.c (.int .i64 (-1))]])
 .ret))
theorem i171:fnInfo Tryz.prog 171 = some (19,[.t 4],ac171):=by kernel_rfl
def ac176:AC :=
 .seq (.reg []
 [o 1 .box [.t 0],
 o 2 .mov [.c (.int .i64 0)],
 o 3 .mov [.c (.int .i64 0)]])
 (.seq (.block 0 (.seq (.reg []
 [o 5 (.fldA 4) [.t 1],
 o 6 (.load none) [.t 5],
 o 7 (.bin .eql .scal) [.t 6,.c (.int .i64 0)],
 o 8 .mov [.t 7],
 ⟨some 9,some (8,true),.fldA 5,[.t 1]⟩,
 ⟨some 10,some (8,true),.load none,[.t 9]⟩,
 ⟨some 11,some (8,true),.bin .eql .scal,[.t 10,.c (.int .i64 0)]⟩,
 o 12 .pick [.t 8,.t 11,.c (.bool false)],
 o 4 .mov [.t 12]])
 (.cond (.t 4)
 (.seq (.reg [[],[0],[1],[],[3],[4],[2,0,1,2],[5,6,0,1,2,3,4,5,6]]
 [o 13 (.fldA 2) [.t 1],
 o 14 (.fldA 1) [.t 13],
 o 15 (.load none) [.t 14],
 o 16 (.fldA 2) [.t 1],
 o 17 (.fldA 1) [.t 16],
 o 18 (.load none) [.t 17],
 o 2 .mov [.t 15],
 o 3 .mov [.t 18]])
 .ret)
 (.seq (.reg []
 [o 20 (.fldA 4) [.t 1],
 o 21 (.load none) [.t 20],
 o 22 (.bin .eql .scal) [.t 21,.c (.int .i64 0)],
 o 19 .mov [.t 22]])
 (.cond (.t 19)
 (.seq (.reg [[],[0],[1],[],[3],[2,0,1,2],[4,5,0,1,2,3,4,5]]
 [o 23 (.fldA 2) [.t 1],
 o 24 (.fldA 1) [.t 23],
 o 25 (.load none) [.t 24],
 o 26 (.fldA 5) [.t 1],
 o 27 (.load none) [.t 26],
 o 2 .mov [.t 25],
 o 3 .mov [.t 27]])
 .ret)
 (.seq (.reg []
 [o 29 (.fldA 5) [.t 1],
 o 30 (.load none) [.t 29],
 o 31 (.bin .eql .scal) [.t 30,.c (.int .i64 0)],
 o 28 .mov [.t 31]])
 (.cond (.t 28)
 (.seq (.reg []
 [o 32 (.fldA 4) [.t 1],
 o 33 (.load none) [.t 32],
 o 2 .mov [.t 33],
 o 3 .mov [.c (.int .i64 32)]])
 .ret)
 .skip)))))))
 (.seq (.reg [[],[0],[],[2],[1,0,1],[3,4,0,1,2,3,4]]
 [o 34 (.fldA 4) [.t 1],
 o 35 (.load none) [.t 34],
 o 36 (.fldA 5) [.t 1],
 o 37 (.load none) [.t 36],
 o 2 .mov [.t 35],
 o 3 .mov [.t 37]])
 .ret))
theorem i176:fnInfo Tryz.prog 176 = some (38,[.t 2,.t 3],ac176):=by kernel_rfl
def ac177:AC :=
 .seq (.reg []
 [o 2 .box [.t 0],
 o 3 .box [.t 1],
 o 4 .mov [.c (.bool false)]])
 (.seq (.reg []
 [o 5 (.load (some 2)) [.t 3],
 o 6 (.call 124) [.t 5],
 o 7 .mov [.t 6],
 ⟨some 8,some (7,true),.fldA 1,[.t 2]⟩,
 ⟨some 9,some (7,true),.load none,[.t 8]⟩,
 ⟨some 10,some (7,true),.fldA 1,[.t 3]⟩,
 ⟨some 11,some (7,true),.load none,[.t 10]⟩,
 ⟨some 12,some (7,true),.bin .leq .scal,[.t 9,.t 11]⟩,
 o 13 .pick [.t 7,.t 12,.c (.bool false)],
 o 14 .mov [.t 13],
 ⟨some 15,some (14,true),.load (some 2),[.t 2]⟩,
 ⟨some 16,some (14,true),.fldA 0,[.t 3]⟩,
 ⟨some 17,some (14,true),.load none,[.t 16]⟩,
 ⟨some 18,some (14,true),.call 167,[.t 15,.t 17]⟩,
 o 19 .pick [.t 14,.t 18,.c (.bool false)],
 o 4 .mov [.t 19]])
 .ret)
theorem i177:fnInfo Tryz.prog 177 = some (20,[.t 4],ac177):=by kernel_rfl
end Go.Proofs.YtmfggjebbhdejaaGreat.Abs

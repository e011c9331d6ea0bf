/- The functions of the program as Lean functions (printed by this work's own program gen.py). -/
import Derived.Test.YtpcpclbdajebjaaP0
import Derived.Test.YtpcpclbdajebjaaA2
set_option linter.unusedVariables false
namespace Go.Proofs.Ytpcpclbdajebjaa.Abs
open Go

structure TEntry where
  Life : Int
  ID : Int
  Seq : Int
  Sum : Int
  deriving DecidableEq, Inhabited
structure TThing where
  Kind : Int
  B : List Int
  deriving DecidableEq, Inhabited
structure TLsp where
  Level : Int
  Life : Int
  ID : Int
  Seq : Int
  Sum : Int
  Bits : Int
  Things : List TThing
  deriving DecidableEq, Inhabited
structure TPage where
  b : List Int
  deriving DecidableEq, Inhabited
structure TBase where
  Level : Int
  Max : Int
  L : List TLsp
  Over : Bool
  deriving DecidableEq, Inhabited
structure TList where
  Level : Int
  Whole : Bool
  Source : Int
  Low : Int
  High : Int
  L : List TEntry
  deriving DecidableEq, Inhabited
structure TS where
  e0 : Int
  e1 : Int
  deriving DecidableEq, Inhabited
structure TAct where
  Tick : Bool
  By : Int
  X : TLsp
  deriving DecidableEq, Inhabited

def F37_cmp_Or_l1  : List Int → Except Int Unit
  | [] => .ok ()
  | x8 :: l8 => (bif decide (x8 = 0) then F37_cmp_Or_l1 l8 else .error (x8))
/-- cmp.Or[int] -/
def F37_cmp_Or (vals0 : List Int) : Int :=
  (match F37_cmp_Or_l1 vals0 with
  | .error r => r
  | .ok _ => 0)

/-- cmp.isNaN[uint32] -/
def F58_cmp_isNaN (x0 : Int) : Bool :=
  !decide (x0 = x0)

/-- cmp.Compare[uint32] -/
def F38_cmp_Compare (x0 : Int) (y1 : Int) : Int :=
  (let c8 := F58_cmp_isNaN x0
   (let c10 := F58_cmp_isNaN y1
    (bif c8 then
      (bif c10 then 0 else (-1))
    else
      (bif c10 then 1 else (bif decide (x0 < y1) then (-1) else (bif decide (y1 < x0) then 1 else 0))))))

/-- crossroads/link.over -/
def F39_link_over (x0 : TEntry) : Int :=
  (bif decide (x0.Life = 0) then 1 else 0)

/-- cmp.isNaN[int] -/
def F59_cmp_isNaN (x0 : Int) : Bool :=
  !decide (x0 = x0)

/-- cmp.Compare[int] -/
def F40_cmp_Compare (x0 : Int) (y1 : Int) : Int :=
  (let c8 := F59_cmp_isNaN x0
   (let c10 := F59_cmp_isNaN y1
    (bif c8 then
      (bif c10 then 0 else (-1))
    else
      (bif c10 then 1 else (bif decide (x0 < y1) then (-1) else (bif decide (y1 < x0) then 1 else 0))))))

/-- crossroads/link.Compare -/
def F8_link_Compare (a0 : TEntry) (b1 : TEntry) : Int :=
  (let c9 := F38_cmp_Compare a0.Seq b1.Seq
   (let c11 := F39_link_over a0
    (let c13 := F39_link_over b1
     (let c19 := F40_cmp_Compare a0.Sum b1.Sum
      F37_cmp_Or ([c9, IntKind.i64.wrap (c11 - c13), c19] : List Int)))))

/-- crossroads/crossroadsref23.more -/
def F41_crossroadsref23_more (is0 : Bool) : Int :=
  (bif is0 then 1 else (-1))

/-- crossroads/crossroadsref23.Compare -/
def F9_crossroadsref23_Compare (a0 : TEntry) (b1 : TEntry) : Int :=
  (bif decide (a0.Seq = b1.Seq) then
    (bif (decide (a0.Life = 0)) == (decide (b1.Life = 0)) then
      (bif decide (a0.Sum = b1.Sum) then 0 else F41_crossroadsref23_more (decide (b1.Sum < a0.Sum)))
    else
      F41_crossroadsref23_more (decide (a0.Life = 0)))
  else
    F41_crossroadsref23_more (decide (b1.Seq < a0.Seq)))

/-- crossroads/crossroadslaw23.entry -/
def F10_crossroadslaw23_entry (x0 : TEntry) : TEntry :=
  x0

/-- crossroads/link.Entry -/
def F14_link_Entry (x0 : TLsp) : TEntry :=
  (⟨x0.Life, x0.ID, x0.Seq, x0.Sum⟩ : TEntry)

def F69_tlv_Put_l1  : (out4 : List Int) → List TThing → Except ((List Int) × Int) (List Int)
  | out4, [] => .ok out4
  | out4, x9 :: l9 => (bif decide (x9.Kind < 0) then
        .error ((([] : List Int), 1))
      else
        (bif decide (255 < x9.Kind) then
          .error ((([] : List Int), 1))
        else
          (bif decide (255 < (x9.B.length : Int)) then
            .error ((([] : List Int), 1))
          else
            F69_tlv_Put_l1 ((out4 ++ ([IntKind.u8.wrap x9.Kind, IntKind.u8.wrap (x9.B.length : Int)] : List Int)) ++ x9.B) l9)))
/-- crossroads/tlv.Put -/
def F69_tlv_Put (l0 : List TThing) : (List Int) × Int :=
  (match F69_tlv_Put_l1 ([] : List Int) l0 with
  | .error r => r
  | .ok out4 => (out4, 0))

/-- crossroads/pdu.headOf -/
def F70_pdu_headOf (kind0 : Int) : Int :=
  (bif decide (kind0 = 17) then
    20
  else
    (bif decide (kind0 = 18) then
      27
    else
      (bif decide (kind0 = 20) then
        27
      else
        (bif decide (kind0 = 24) then
          33
        else
          (bif decide (kind0 = 25) then
            33
          else
            (bif decide (kind0 = 26) then 17 else (bif decide (kind0 = 27) then 17 else 0)))))))

/-- crossroads/pdu.isLevel -/
def F71_pdu_isLevel (n0 : Int) : Bool :=
  ((decide (n0 = 1)) || (decide (n0 = 2)))

/-- crossroads/pdu.isIn -/
def F72_pdu_isIn (n0 : Int) (most1 : Int) : Bool :=
  ((decide (0 ≤ n0)) && (decide (n0 ≤ most1)))

/-- crossroads/pdu.begin -/
def F73_pdu_begin (kind0 : Int) : (List Int) :=
  (let c4 := F70_pdu_headOf kind0
   ([131, IntKind.u8.wrap c4, 1, 0, IntKind.u8.wrap kind0, 1, 0, 0] : List Int))

def F74_pdu_page_put_l1 (n1 : Int) (fuel0 : Nat) (i6 : Int) (row2 : List Int) : Int × (List Int) :=
  match fuel0 with
  | 0 => (i6, row2)
  | fuel0 + 1 => (bif decide (0 ≤ i6) then
        F74_pdu_page_put_l1 n1 fuel0 (IntKind.i64.wrap (i6 - 1)) (row2 ++ ([IntKind.u8.wrap (shr_ .u64 n1 (IntKind.i64.wrap (8 * i6)))] : List Int))
      else
        (i6, row2))
/-- (*crossroads/pdu.page).put -/
def F74_pdu_page_put (p0 : TPage) (n1 : Int) (many2 : Int) : TPage :=
  (match F74_pdu_page_put_l1 n1 (((IntKind.i64.wrap (many2 - 1)) + 1).toNat + 1) (IntKind.i64.wrap (many2 - 1)) p0.b with
  | (i6, row2) => (⟨row2⟩ : TPage))

/-- crossroads/pdu.PutLsp -/
def F61_pdu_PutLsp (x0 : TLsp) : (List Int) × Int :=
  (match F69_tlv_Put x0.Things with
   | (c12a, c12b) => (let c15 := F70_pdu_headOf 18
      (bif decide (c12b = 0) then
        (let c24 := F71_pdu_isLevel x0.Level
         (bif c24 then
           (let c30 := F72_pdu_isIn x0.Life 65535
            (bif c30 then
              (let c36 := F72_pdu_isIn x0.Sum 65535
               (bif c36 then
                 (let c42 := F72_pdu_isIn x0.Bits 63
                  (bif c42 then
                    (bif decide (1492 < IntKind.i64.wrap (c15 + (c12a.length : Int))) then
                      (([] : List Int), 1)
                    else
                      (bif decide (x0.Level = 2) then
                        (let c53 := F73_pdu_begin 20
                         (let c59 := F74_pdu_page_put (⟨c53⟩ : TPage) (IntKind.u64.wrap (IntKind.i64.wrap (c15 + (c12a.length : Int)))) 2
                          (let c64 := F74_pdu_page_put c59 (IntKind.u64.wrap x0.Life) 2
                           (let c68 := F74_pdu_page_put c64 x0.ID 8
                            (let c73 := F74_pdu_page_put c68 (IntKind.u64.wrap x0.Seq) 4
                             (let c78 := F74_pdu_page_put c73 (IntKind.u64.wrap x0.Sum) 2
                              (let c87 := F74_pdu_page_put c78 (IntKind.u64.wrap (bit_or .i64 (IntKind.i64.wrap (x0.Bits * 2 ^ 2)) 3)) 1
                               ((c87.b ++ c12a), 0))))))))
                      else
                        (let c53 := F73_pdu_begin 18
                         (let c59 := F74_pdu_page_put (⟨c53⟩ : TPage) (IntKind.u64.wrap (IntKind.i64.wrap (c15 + (c12a.length : Int)))) 2
                          (let c64 := F74_pdu_page_put c59 (IntKind.u64.wrap x0.Life) 2
                           (let c68 := F74_pdu_page_put c64 x0.ID 8
                            (let c73 := F74_pdu_page_put c68 (IntKind.u64.wrap x0.Seq) 4
                             (let c78 := F74_pdu_page_put c73 (IntKind.u64.wrap x0.Sum) 2
                              (let c87 := F74_pdu_page_put c78 (IntKind.u64.wrap (bit_or .i64 (IntKind.i64.wrap (x0.Bits * 2 ^ 2)) 1)) 1
                               ((c87.b ++ c12a), 0))))))))))
                  else
                    (([] : List Int), 1)))
               else
                 (([] : List Int), 1)))
            else
              (([] : List Int), 1)))
         else
           (([] : List Int), 1)))
      else
        (([] : List Int), 1))))

/-- (crossroads/link.Base).isOf -/
def F48_link_Base_isOf (b0 : TBase) (x1 : TLsp) : Bool :=
  (match F61_pdu_PutLsp x1 with
   | (c9a, c9b) => ((decide (c9b = 0)) && (decide (x1.Level = b0.Level))))

def F62_slices_BinarySearchFunc_l1 (x0 : List TLsp) (target1 : Int) (hcmp2 : TLsp → Int → Int) (fuel0 : Nat) (i9 : Int) (j10 : Int) : Int × Int :=
  match fuel0 with
  | 0 => (i9, j10)
  | fuel0 + 1 => (bif decide (i9 < j10) then
        (let c30 := hcmp2 (x0.getD (IntKind.i64.wrap (Int.fdiv (IntKind.u64.wrap (IntKind.i64.wrap (i9 + j10))) (2 ^ 1))).toNat default) target1
         (bif decide (c30 < 0) then
           F62_slices_BinarySearchFunc_l1 x0 target1 hcmp2 fuel0 (IntKind.i64.wrap ((IntKind.i64.wrap (Int.fdiv (IntKind.u64.wrap (IntKind.i64.wrap (i9 + j10))) (2 ^ 1))) + 1)) j10
         else
           F62_slices_BinarySearchFunc_l1 x0 target1 hcmp2 fuel0 i9 (IntKind.i64.wrap (Int.fdiv (IntKind.u64.wrap (IntKind.i64.wrap (i9 + j10))) (2 ^ 1)))))
      else
        (i9, j10))
/-- slices.BinarySearchFunc[[]crossroads/pdu.Lsp,crossroads/pdu.Lsp,uint64] -/
def F62_slices_BinarySearchFunc (x0 : List TLsp) (target1 : Int) (hcmp2 : TLsp → Int → Int) : Int × Bool :=
  (match F62_slices_BinarySearchFunc_l1 x0 target1 hcmp2 (((x0.length : Int) - 0).toNat + 1) 0 (x0.length : Int) with
  | (i9, j10) => (bif decide (i9 < (x0.length : Int)) then
      (let c46 := hcmp2 (x0.getD i9.toNat default) target1
       (i9, decide (c46 = 0)))
    else
      (i9, false)))

/-- cmp.isNaN[uint64] -/
def F75_cmp_isNaN (x0 : Int) : Bool :=
  !decide (x0 = x0)

/-- cmp.Compare[uint64] -/
def F64_cmp_Compare (x0 : Int) (y1 : Int) : Int :=
  (let c8 := F75_cmp_isNaN x0
   (let c10 := F75_cmp_isNaN y1
    (bif c8 then
      (bif c10 then 0 else (-1))
    else
      (bif c10 then 1 else (bif decide (x0 < y1) then (-1) else (bif decide (y1 < x0) then 1 else 0))))))

/-- (crossroads/link.Base).at$1 -/
def F63_link_Base_at_1 (x0 : TLsp) (id1 : Int) : Int :=
  F64_cmp_Compare x0.ID id1

/-- (crossroads/link.Base).at -/
def F49_link_Base_at (b0 : TBase) (id1 : Int) : Int × Bool :=
  F62_slices_BinarySearchFunc b0.L id1 (fun y0 y1 => F63_link_Base_at_1 y0 y1)

/-- crossroads/link.Put -/
def F21_link_Put (b0 : TBase) (x1 : TLsp) : TBase × Int × Int :=
  (let c12 := F48_link_Base_isOf b0 x1
   (bif c12 then
     (match F49_link_Base_at b0 x1.ID with
      | (c19a, c19b) => (bif c19b then
          (let c42 := F14_link_Entry x1
           (let c48 := F14_link_Entry (b0.L.getD c19a.toNat default)
            (let c49 := F8_link_Compare c42 c48
             (bif decide (IntKind.i64.wrap (1 + c49) = 2) then
               ((⟨b0.Level, b0.Max, (b0.L.set c19a.toNat x1), b0.Over⟩ : TBase), IntKind.i64.wrap (1 + c49), 0)
             else
               (b0, IntKind.i64.wrap (1 + c49), 0)))))
        else
          (bif decide (b0.Max ≤ (b0.L.length : Int)) then
            ((⟨b0.Level, b0.Max, b0.L, true⟩ : TBase), 0, 8)
          else
            ((⟨b0.Level, b0.Max, (ins_ b0.L c19a ([x1] : List TLsp)), b0.Over⟩ : TBase), 3, 0))))
   else
     (b0, 0, 1)))

/-- crossroads/link.New -/
def F24_link_New (level0 : Int) (most1 : Int) : TBase × Int :=
  (bif decide (level0 < 1) then
    ((⟨0, 0, ([] : List TLsp), false⟩ : TBase), 1)
  else
    (bif decide (2 < level0) then
      ((⟨0, 0, ([] : List TLsp), false⟩ : TBase), 1)
    else
      (bif decide (most1 < 1) then
        ((⟨0, 0, ([] : List TLsp), false⟩ : TBase), 1)
      else
        (bif decide (1000 < most1) then
          ((⟨0, 0, ([] : List TLsp), false⟩ : TBase), 1)
        else
          ((⟨level0, most1, ([] : List TLsp), false⟩ : TBase), 0)))))

/-- crossroads/crossroadslaw23.alive -/
def F11_crossroadslaw23_alive : Bool :=
  (match F24_link_New 1 1 with
   | (c9a, c9b) => (match F21_link_Put c9a (⟨1, 0, 5, 1, 0, 0, ([] : List TThing)⟩ : TLsp) with
      | (c15a, c15b, c15c) => (match F21_link_Put c15a (⟨1, 0, 6, 1, 0, 0, ([] : List TThing)⟩ : TLsp) with
         | (c22a, c22b, c22c) => ((decide (c9b = 0)) && ((decide (c15b = 3)) && ((decide (c15c = 0)) && ((decide (c22c = 8)) && (let c43 := F8_link_Compare (⟨0, 0, 2, 0⟩ : TEntry) (⟨0, 0, 1, 9⟩ : TEntry)
            decide (c43 = 1)))))))))

/-- crossroads/crossroadslaw23.LinkOrder -/
def F3_crossroadslaw23_LinkOrder (a0 : TEntry) (b1 : TEntry) (c2 : TEntry) : Bool :=
  (let c12 := F8_link_Compare a0 b1
   (let c15 := F8_link_Compare b1 c2
    (let c18 := F8_link_Compare a0 c2
     (let c21 := F10_crossroadslaw23_entry a0
      (let c23 := F10_crossroadslaw23_entry b1
       (let c24 := F9_crossroadsref23_Compare c21 c23
        ((decide (c12 = c24)) && (let c29 := F8_link_Compare b1 a0
         ((decide (c29 = IntKind.i64.wrap (-c12))) && (let c37 := F8_link_Compare a0 a0
          ((decide (c37 = 0)) && (let c40 := F11_crossroadslaw23_alive
           (c40 && (bif decide (c12 < 0) then
             ((decide (c12 ≤ 0)) || ((decide (c15 ≤ 0)) || (decide (0 < c18))))
           else
             (bif decide (c15 < 0) then
               ((decide (c12 ≤ 0)) || ((decide (c15 ≤ 0)) || (decide (0 < c18))))
             else
               ((decide (0 ≤ c18)) && ((decide (c12 ≤ 0)) || ((decide (c15 ≤ 0)) || (decide (0 < c18))))))))))))))))))))

def F12_crossroadslaw23_little_l1  : (i3 : Nat) → List TThing → Except Bool Unit
  | i3, [] => .ok ()
  | i3, x3 :: l3 => (bif decide ((i3 : Int) = 8) then
        .error (false)
      else
        (bif decide (300 < (x3.B.length : Int)) then .error (false) else F12_crossroadslaw23_little_l1 (i3 + 1) l3))
/-- crossroads/crossroadslaw23.little -/
def F12_crossroadslaw23_little (x0 : TLsp) : Bool :=
  (match F12_crossroadslaw23_little_l1 0 x0.Things with
  | .error r => r
  | .ok _ => true)

/-- crossroads/crossroadslaw23.thing -/
def F13_crossroadslaw23_thing (kind0 : Int) : (List TThing) :=
  ([(⟨kind0, ([] : List Int)⟩ : TThing)] : List TThing)

def F42_slices_EqualFunc_l1 (s21 : List TLsp) (heq2 : TLsp → TLsp → Bool) : (i17 : Nat) → List TLsp → Except Bool Unit
  | i17, [] => .ok ()
  | i17, x17 :: l17 => (let c29 := heq2 x17 (s21.getD i17 default)
       (bif c29 then F42_slices_EqualFunc_l1 s21 heq2 (i17 + 1) l17 else .error (false)))
/-- slices.EqualFunc[[]crossroads/pdu.Lsp,[]crossroads/pdu.Lsp,crossroads/pdu.Lsp,crossroads/pdu.Lsp] -/
def F42_slices_EqualFunc (s10 : List TLsp) (s21 : List TLsp) (heq2 : TLsp → TLsp → Bool) : Bool :=
  ((decide ((s10.length : Int) = (s21.length : Int))) && (match F42_slices_EqualFunc_l1 s21 heq2 0 s10 with
  | .error r => r
  | .ok _ => true))

def F44_slices_EqualFunc_l1 (s21 : List TThing) (heq2 : TThing → TThing → Bool) : (i17 : Nat) → List TThing → Except Bool Unit
  | i17, [] => .ok ()
  | i17, x17 :: l17 => (let c29 := heq2 x17 (s21.getD i17 default)
       (bif c29 then F44_slices_EqualFunc_l1 s21 heq2 (i17 + 1) l17 else .error (false)))
/-- slices.EqualFunc[[]crossroads/tlv.Thing,[]crossroads/tlv.Thing,crossroads/tlv.Thing,crossroads/tlv.Thing] -/
def F44_slices_EqualFunc (s10 : List TThing) (s21 : List TThing) (heq2 : TThing → TThing → Bool) : Bool :=
  ((decide ((s10.length : Int) = (s21.length : Int))) && (match F44_slices_EqualFunc_l1 s21 heq2 0 s10 with
  | .error r => r
  | .ok _ => true))

/-- bytes.Equal -/
def F60_bytes_Equal (a0 : List Int) (b1 : List Int) : Bool :=
  ((strNums a0).toList == (strNums b1).toList)

/-- crossroads/link.isThing -/
def F45_link_isThing (a0 : TThing) (b1 : TThing) : Bool :=
  ((decide (a0.Kind = b1.Kind)) && (F60_bytes_Equal a0.B b1.B))

/-- crossroads/link.Alike$1 -/
def F43_link_Alike_1 (x0 : TLsp) (y1 : TLsp) : Bool :=
  ((decide (x0.ID = y1.ID)) && (let c12 := F14_link_Entry x0
   (let c14 := F14_link_Entry y1
    (let c15 := F8_link_Compare c12 c14
     ((decide (c15 = 0)) && (F44_slices_EqualFunc x0.Things y1.Things (fun y0 y1 => F45_link_isThing y0 y1)))))))

/-- crossroads/link.Alike -/
def F15_link_Alike (a0 : TBase) (b1 : TBase) : Bool :=
  F42_slices_EqualFunc a0.L b1.L (fun y0 y1 => F43_link_Alike_1 y0 y1)

/-- crossroads/crossroadslaw23.LinkEntry -/
def F4_crossroadslaw23_LinkEntry (x0 : TLsp) : Bool :=
  (let c6 := F12_crossroadslaw23_little x0
   (bif c6 then
     (let c13 := F13_crossroadslaw23_thing 1
      (let c18 := F11_crossroadslaw23_alive
       (c18 && (let c21 := F14_link_Entry x0
        ((decide (c21.Life = x0.Life) && (decide (c21.ID = x0.ID) && (decide (c21.Seq = x0.Seq) && (decide (c21.Sum = x0.Sum) && true)))) && (let c36 := F15_link_Alike (⟨0, 0, ([x0] : List TLsp), false⟩ : TBase) (⟨0, 0, ([x0] : List TLsp), false⟩ : TBase)
         (c36 && (let c43 := F15_link_Alike (⟨0, 0, ([x0] : List TLsp), false⟩ : TBase) (⟨0, 0, ([(⟨x0.Level, x0.Life, x0.ID, x0.Seq, x0.Sum, x0.Bits, (c13 ++ x0.Things)⟩ : TLsp)] : List TLsp), false⟩ : TBase)
          !c43))))))))
   else
     F11_crossroadslaw23_alive))

def F30_crossroadslaw23_lsp_l1  : (t3 : List TThing) → List TThing → (List TThing)
  | t3, [] => t3
  | t3, x4 :: l4 => F30_crossroadslaw23_lsp_l1 (t3 ++ ([x4] : List TThing)) l4
/-- crossroads/crossroadslaw23.lsp -/
def F30_crossroadslaw23_lsp (x0 : TLsp) : TLsp :=
  (let t3 := F30_crossroadslaw23_lsp_l1 ([] : List TThing) x0.Things
   (⟨x0.Level, x0.Life, x0.ID, x0.Seq, x0.Sum, x0.Bits, t3⟩ : TLsp))

def F23_crossroadslaw23_plain_l1  : (row3 : List TLsp) → List TLsp → (List TLsp)
  | row3, [] => row3
  | row3, x4 :: l4 => (let c26 := F30_crossroadslaw23_lsp x4
       F23_crossroadslaw23_plain_l1 (row3 ++ ([c26] : List TLsp)) l4)
/-- crossroads/crossroadslaw23.plain -/
def F23_crossroadslaw23_plain (b0 : TBase) : TBase :=
  (let row3 := F23_crossroadslaw23_plain_l1 ([] : List TLsp) b0.L
   (⟨b0.Level, b0.Max, row3, b0.Over⟩ : TBase))

/-- crossroads/crossroadsref23.New -/
def F25_crossroadsref23_New (level0 : Int) (most1 : Int) : TBase × Int :=
  (bif decide (level0 < 1) then
    ((⟨0, 0, ([] : List TLsp), false⟩ : TBase), 1)
  else
    (bif decide (2 < level0) then
      ((⟨0, 0, ([] : List TLsp), false⟩ : TBase), 1)
    else
      (bif decide (most1 < 1) then
        ((⟨0, 0, ([] : List TLsp), false⟩ : TBase), 1)
      else
        (bif decide (1000 < most1) then
          ((⟨0, 0, ([] : List TLsp), false⟩ : TBase), 1)
        else
          ((⟨level0, most1, ([] : List TLsp), false⟩ : TBase), 0)))))

def F77_crossroadsref21_Put_l1  : (b4 : List Int) → List TThing → Except ((List Int) × Int) (List Int)
  | b4, [] => .ok b4
  | b4, x5 :: l5 => (bif decide (x5.Kind < 0) then
        .error ((([] : List Int), 1))
      else
        (bif decide (255 < x5.Kind) then
          .error ((([] : List Int), 1))
        else
          (bif decide (255 < (x5.B.length : Int)) then
            .error ((([] : List Int), 1))
          else
            F77_crossroadsref21_Put_l1 ((b4 ++ ([IntKind.u8.wrap x5.Kind, IntKind.u8.wrap (x5.B.length : Int)] : List Int)) ++ x5.B) l5)))
/-- crossroads/crossroadsref21.Put -/
def F77_crossroadsref21_Put (l0 : List TThing) : (List Int) × Int :=
  (match F77_crossroadsref21_Put_l1 ([] : List Int) l0 with
  | .error r => r
  | .ok b4 => (b4, 0))

/-- crossroads/crossroadsref22.short -/
def F78_crossroadsref22_short (n0 : Int) : Bool :=
  ((decide (0 ≤ n0)) && (decide (n0 ≤ 65535)))

/-- crossroads/crossroadsref22.begin -/
def F79_crossroadsref22_begin (head0 : Int) (kind1 : Int) : (List Int) :=
  ([131, IntKind.u8.wrap head0, 1, 0, IntKind.u8.wrap kind1, 1, 0, 0] : List Int)

/-- crossroads/crossroadsref22.two -/
def F80_crossroadsref22_two (n0 : Int) : (List Int) :=
  ([IntKind.u8.wrap (IntKind.i64.wrap (Int.tdiv n0 256)), IntKind.u8.wrap (Int.tmod n0 256)] : List Int)

/-- crossroads/crossroadsref01.Four -/
def F82_crossroadsref01_Four (n0 : Int) : (List Int) :=
  ([IntKind.u8.wrap (Int.fdiv n0 (2 ^ 24)), IntKind.u8.wrap (Int.fdiv n0 (2 ^ 16)), IntKind.u8.wrap (Int.fdiv n0 (2 ^ 8)), IntKind.u8.wrap n0] : List Int)

/-- crossroads/crossroadsref22.eight -/
def F81_crossroadsref22_eight (n0 : Int) : (List Int) :=
  (let c6 := F82_crossroadsref01_Four (IntKind.u32.wrap (Int.fdiv n0 (2 ^ 32)))
   (let c9 := F82_crossroadsref01_Four (IntKind.u32.wrap n0)
    (c6 ++ c9)))

/-- crossroads/crossroadsref22.PutLsp -/
def F68_crossroadsref22_PutLsp (x0 : TLsp) : (List Int) × Int :=
  (match F77_crossroadsref21_Put x0.Things with
   | (c10a, c10b) => (bif decide (c10b = 0) then
       (bif decide (x0.Level < 1) then
         (([] : List Int), 1)
       else
         (bif decide (2 < x0.Level) then
           (([] : List Int), 1)
         else
           (let c28 := F78_crossroadsref22_short x0.Life
            (bif c28 then
              (let c34 := F78_crossroadsref22_short x0.Sum
               (bif c34 then
                 (bif decide (x0.Bits < 0) then
                   (([] : List Int), 1)
                 else
                   (bif decide (63 < x0.Bits) then
                     (([] : List Int), 1)
                   else
                     (bif decide (1465 < (c10a.length : Int)) then
                       (([] : List Int), 1)
                     else
                       (let c56 := F79_crossroadsref22_begin 27 (IntKind.i64.wrap (16 + (IntKind.i64.wrap (2 * x0.Level))))
                        (let c60 := F80_crossroadsref22_two (IntKind.i64.wrap (27 + (c10a.length : Int)))
                         (let c65 := F80_crossroadsref22_two x0.Life
                          (let c70 := F81_crossroadsref22_eight x0.ID
                           (let c75 := F82_crossroadsref01_Four x0.Seq
                            (let c80 := F80_crossroadsref22_two x0.Sum
                             ((((((((c56 ++ c60) ++ c65) ++ c70) ++ c75) ++ c80) ++ ([IntKind.u8.wrap (IntKind.i64.wrap ((IntKind.i64.wrap ((IntKind.i64.wrap (4 * x0.Bits)) + (IntKind.i64.wrap (2 * x0.Level)))) - 1))] : List Int)) ++ c10a), 0))))))))))
               else
                 (([] : List Int), 1)))
            else
              (([] : List Int), 1)))))
     else
       (([] : List Int), 1)))

/-- crossroads/crossroadsref23.mayLsp -/
def F53_crossroadsref23_mayLsp (x0 : TLsp) (level1 : Int) : Bool :=
  (match F68_crossroadsref22_PutLsp x0 with
   | (c9a, c9b) => ((decide (c9b = 0)) && (decide (x0.Level = level1))))

def F46_crossroadsref23_May_l1 (b0 : TBase) : (i5 : Nat) → List TLsp → Except Bool Unit
  | i5, [] => .ok ()
  | i5, x5 :: l5 => (let c38 := F53_crossroadsref23_mayLsp x5 b0.Level
       (bif c38 then
         (bif decide (0 < (i5 : Int)) then
           (bif decide (x5.ID ≤ (b0.L.getD (i5 - 1) default).ID) then .error (false) else F46_crossroadsref23_May_l1 b0 (i5 + 1) l5)
         else
           F46_crossroadsref23_May_l1 b0 (i5 + 1) l5)
       else
         .error (false)))
/-- crossroads/crossroadsref23.May -/
def F46_crossroadsref23_May (b0 : TBase) : Bool :=
  (match F25_crossroadsref23_New b0.Level b0.Max with
   | (c11a, c11b) => ((decide (c11b = 0)) && (bif decide (b0.Max < (b0.L.length : Int)) then
       false
     else
       (match F46_crossroadsref23_May_l1 b0 0 b0.L with
       | .error r => r
       | .ok _ => true))))

def F16_crossroadslaw23_small_l1  : (i3 : Nat) → List TLsp → Except Bool Unit
  | i3, [] => .ok ()
  | i3, x3 :: l3 => (bif decide ((i3 : Int) = 60) then
        .error (false)
      else
        (let c19 := F12_crossroadslaw23_little x3
         (bif c19 then F16_crossroadslaw23_small_l1 (i3 + 1) l3 else .error (false))))
/-- crossroads/crossroadslaw23.small -/
def F16_crossroadslaw23_small (b0 : TBase) : Bool :=
  (match F16_crossroadslaw23_small_l1 0 b0.L with
  | .error r => r
  | .ok _ => 
    (let c23 := F23_crossroadslaw23_plain b0
     F46_crossroadsref23_May c23))

def F17_link_List_l1 (low1 : Int) (high2 : Int) : (out7 : List TEntry) → List TLsp → (List TEntry)
  | out7, [] => out7
  | out7, x13 :: l13 => (bif decide (low1 ≤ x13.ID) then
        (bif decide (x13.ID ≤ high2) then
          (let c29 := F14_link_Entry x13
           F17_link_List_l1 low1 high2 (out7 ++ ([c29] : List TEntry)) l13)
        else
          F17_link_List_l1 low1 high2 out7 l13)
      else
        F17_link_List_l1 low1 high2 out7 l13)
/-- crossroads/link.List -/
def F17_link_List (b0 : TBase) (low1 : Int) (high2 : Int) : (List TEntry) :=
  F17_link_List_l1 low1 high2 ([] : List TEntry) b0.L

/-- crossroads/link.Find -/
def F47_link_Find (b0 : TBase) (id1 : Int) : TLsp × Bool :=
  (match F49_link_Base_at b0 id1 with
   | (c11a, c11b) => (bif c11b then
       ((b0.L.getD c11a.toNat default), true)
     else
       ((⟨0, 0, 0, 0, 0, 0, ([] : List TThing)⟩ : TLsp), false)))

def F18_link_Differ_l2 (x1 : TList) (told6 : List (Int × TEntry)) : (send15 : List Int) → List TEntry → (List Int)
  | send15, [] => send15
  | send15, x75 :: l75 => (bif (findM told6 x75.ID).isSome then
        (let c112 := F8_link_Compare x75 ((findM told6 x75.ID).getD (⟨0, 0, 0, 0⟩ : TEntry))
         (bif decide (0 < c112) then
           F18_link_Differ_l2 x1 told6 (send15 ++ ([x75.ID] : List Int)) l75
         else
           F18_link_Differ_l2 x1 told6 send15 l75))
      else
        (bif x1.Whole then
          (bif decide (x1.Low ≤ x75.ID) then
            (bif decide (x75.ID ≤ x1.High) then
              F18_link_Differ_l2 x1 told6 (send15 ++ ([x75.ID] : List Int)) l75
            else
              F18_link_Differ_l2 x1 told6 send15 l75)
          else
            F18_link_Differ_l2 x1 told6 send15 l75)
        else
          F18_link_Differ_l2 x1 told6 send15 l75))
def F18_link_Differ_l3 (b0 : TBase) : (told6 : List (Int × TEntry)) → (ask7 : List TEntry) → List TEntry → (List (Int × TEntry)) × (List TEntry)
  | told6, ask7, [] => (told6, ask7)
  | told6, ask7, x25 :: l25 => (bif (findM told6 x25.ID).isSome then
        F18_link_Differ_l3 b0 told6 ask7 l25
      else
        (match F47_link_Find b0 x25.ID with
         | (c48a, c48b) => (bif c48b then
             (let c53 := F14_link_Entry c48a
              (bif decide (x25.Life = 0) then
                F18_link_Differ_l3 b0 (setM told6 x25.ID x25) ask7 l25
              else
                (let c63 := F8_link_Compare x25 c53
                 (bif decide (0 < c63) then
                   F18_link_Differ_l3 b0 (setM told6 x25.ID x25) (ask7 ++ ([c53] : List TEntry)) l25
                 else
                   F18_link_Differ_l3 b0 (setM told6 x25.ID x25) ask7 l25))))
           else
             (bif decide (x25.Life = 0) then
               F18_link_Differ_l3 b0 (setM told6 x25.ID x25) ask7 l25
             else
               F18_link_Differ_l3 b0 (setM told6 x25.ID x25) (ask7 ++ ([(⟨0, x25.ID, 0, 0⟩ : TEntry)] : List TEntry)) l25))))
/-- crossroads/link.Differ -/
def F18_link_Differ (b0 : TBase) (x1 : TList) : (List Int) × (List TEntry) :=
  (match F18_link_Differ_l3 b0 ([] : List (Int × TEntry)) ([] : List TEntry) x1.L with
  | (told6, ask7) => (let c73 := F17_link_List b0 0 18446744073709551615
     (let send15 := F18_link_Differ_l2 x1 told6 ([] : List Int) c73
      (send15, ask7))))

def F19_crossroadslaw23_gives_l1 (from1 : TBase) : (to3 : TBase) → List Int → TBase
  | to3, [] => to3
  | to3, x7 :: l7 => (match F47_link_Find from1 x7 with
       | (c25a, c25b) => (bif c25b then
           (match F21_link_Put to3 c25a with
            | (c32a, c32b, c32c) => F19_crossroadslaw23_gives_l1 from1 c32a l7)
         else
           F19_crossroadslaw23_gives_l1 from1 to3 l7))
/-- crossroads/crossroadslaw23.gives -/
def F19_crossroadslaw23_gives (to0 : TBase) (from1 : TBase) (ids2 : List Int) : TBase :=
  F19_crossroadslaw23_gives_l1 from1 to0 ids2

def F20_crossroadslaw23_wanted_l1  : (out3 : List Int) → List TEntry → (List Int)
  | out3, [] => out3
  | out3, x4 :: l4 => F20_crossroadslaw23_wanted_l1 (out3 ++ ([x4.ID] : List Int)) l4
/-- crossroads/crossroadslaw23.wanted -/
def F20_crossroadslaw23_wanted (l0 : List TEntry) : (List Int) :=
  F20_crossroadslaw23_wanted_l1 ([] : List Int) l0

def F5_crossroadslaw23_LinkAlike_l1 (c82 : List TEntry) : (i16 : Nat) → List TEntry → Except Bool Unit
  | i16, [] => .ok ()
  | i16, x16 :: l16 => (bif decide (x16.ID = (c82.getD i16 default).ID) then
        (let c114 := F8_link_Compare x16 (c82.getD i16 default)
         (bif decide (c114 = 0) then F5_crossroadslaw23_LinkAlike_l1 c82 (i16 + 1) l16 else .error (false)))
      else
        .error (false))
/-- crossroads/crossroadslaw23.LinkAlike -/
def F5_crossroadslaw23_LinkAlike (a0 : TBase) (b1 : TBase) : Bool :=
  (let c18 := F16_crossroadslaw23_small a0
   (bif c18 then
     (let c22 := F16_crossroadslaw23_small b1
      (bif c22 then
        (bif decide (a0.Level = b1.Level) then
          (let c40 := F17_link_List (⟨a0.Level, 1000, a0.L, a0.Over⟩ : TBase) 0 18446744073709551615
           (let c47 := F17_link_List (⟨b1.Level, 1000, b1.L, b1.Over⟩ : TBase) 0 18446744073709551615
            (match F18_link_Differ (⟨a0.Level, 1000, a0.L, a0.Over⟩ : TBase) (⟨b1.Level, true, 0, 0, 18446744073709551615, c47⟩ : TList) with
             | (c52a, c52b) => (match F18_link_Differ (⟨b1.Level, 1000, b1.L, b1.Over⟩ : TBase) (⟨a0.Level, true, 0, 0, 18446744073709551615, c40⟩ : TList) with
                | (c58a, c58b) => (let c64 := F19_crossroadslaw23_gives (⟨a0.Level, 1000, a0.L, a0.Over⟩ : TBase) (⟨b1.Level, 1000, b1.L, b1.Over⟩ : TBase) c58a
                   (let c67 := F20_crossroadslaw23_wanted c52b
                    (let c68 := F19_crossroadslaw23_gives c64 (⟨b1.Level, 1000, b1.L, b1.Over⟩ : TBase) c67
                     (let c72 := F19_crossroadslaw23_gives (⟨b1.Level, 1000, b1.L, b1.Over⟩ : TBase) (⟨a0.Level, 1000, a0.L, a0.Over⟩ : TBase) c52a
                      (let c75 := F20_crossroadslaw23_wanted c58b
                       (let c76 := F19_crossroadslaw23_gives c72 (⟨a0.Level, 1000, a0.L, a0.Over⟩ : TBase) c75
                        (let c79 := F17_link_List c68 0 18446744073709551615
                         (let c82 := F17_link_List c76 0 18446744073709551615
                          ((decide ((c79.length : Int) = (c82.length : Int))) && (match F5_crossroadslaw23_LinkAlike_l1 c82 0 c79 with
                          | .error r => r
                          | .ok _ => 
                            (let c117 := F11_crossroadslaw23_alive
                             (c117 && (((!c68.Over) == (!a0.Over)) && ((!c76.Over) == (!b1.Over)))))))))))))))))))
        else
          F11_crossroadslaw23_alive)
      else
        F11_crossroadslaw23_alive))
   else
     F11_crossroadslaw23_alive))

def F67_crossroadsref21_Things_l1 (b1 : List TThing) : (i5 : Nat) → List TThing → Except Bool Unit
  | i5, [] => .ok ()
  | i5, x5 :: l5 => (bif decide (x5.Kind = (b1.getD i5 default).Kind) then
        (bif (strNums x5.B).toList == (strNums ((b1.getD i5 default).B)).toList then F67_crossroadsref21_Things_l1 b1 (i5 + 1) l5 else .error (false))
      else
        .error (false))
/-- crossroads/crossroadsref21.Things -/
def F67_crossroadsref21_Things (a0 : List TThing) (b1 : List TThing) : Bool :=
  ((decide ((a0.length : Int) = (b1.length : Int))) && (match F67_crossroadsref21_Things_l1 b1 0 a0 with
  | .error r => r
  | .ok _ => true))

/-- crossroads/crossroadsref22.SameLsp -/
def F52_crossroadsref22_SameLsp (a0 : TLsp) (b1 : TLsp) : Bool :=
  ((decide (a0.Level = b1.Level)) && ((decide (a0.Life = b1.Life)) && ((decide (a0.ID = b1.ID)) && ((decide (a0.Seq = b1.Seq)) && ((decide (a0.Sum = b1.Sum)) && ((decide (a0.Bits = b1.Bits)) && (F67_crossroadsref21_Things a0.Things b1.Things)))))))

def F22_crossroadsref23_Same_l1 (b1 : TBase) : (i5 : Nat) → List TLsp → Except Bool Unit
  | i5, [] => .ok ()
  | i5, x5 :: l5 => (let c51 := F52_crossroadsref22_SameLsp x5 (b1.L.getD i5 default)
       (bif c51 then F22_crossroadsref23_Same_l1 b1 (i5 + 1) l5 else .error (false)))
/-- crossroads/crossroadsref23.Same -/
def F22_crossroadsref23_Same (a0 : TBase) (b1 : TBase) : Bool :=
  ((decide (a0.Level = b1.Level)) && ((decide (a0.Max = b1.Max)) && ((a0.Over == b1.Over) && ((decide ((a0.L.length : Int) = (b1.L.length : Int))) && (match F22_crossroadsref23_Same_l1 b1 0 a0.L with
  | .error r => r
  | .ok _ => true)))))

/-- crossroads/crossroadslaw23.LinkTwice -/
def F6_crossroadslaw23_LinkTwice (b0 : TBase) (x1 : TLsp) : Bool :=
  (let c15 := F16_crossroadslaw23_small b0
   (bif c15 then
     (let c19 := F12_crossroadslaw23_little x1
      (bif c19 then
        (match F21_link_Put b0 x1 with
         | (c26a, c26b, c26c) => (match F21_link_Put c26a x1 with
            | (c33a, c33b, c33c) => (let c44 := F17_link_List c26a 0 18446744073709551615
               (match F18_link_Differ c26a (⟨c26a.Level, true, 0, 0, 18446744073709551615, c44⟩ : TList) with
                | (c46a, c46b) => ((decide (c26c = c33c)) && (let c54 := F23_crossroadslaw23_plain c26a
                   (let c56 := F23_crossroadslaw23_plain c33a
                    (let c57 := F22_crossroadsref23_Same c54 c56
                     (c57 && (bif decide (0 < IntKind.i64.wrap ((c46a.length : Int) + (c46b.length : Int))) then
                       false
                     else
                       (let c68 := F11_crossroadslaw23_alive
                        (c68 && (bif decide (c26c = 0) then
                          (bif decide (c26b = 0) then
                            ((decide (c33b = 0)) || ((decide (0 < c26b)) && (decide (c33b = 1))))
                          else
                            ((decide (0 < c26b)) && (decide (c33b = 1))))
                        else
                          true)))))))))))))
      else
        F11_crossroadslaw23_alive))
   else
     F11_crossroadslaw23_alive))

def F26_link_Tick_l1 (by1 : Int) : (l6 : List TLsp) → (out7 : List Int) → (i15 : Nat) → List TLsp → (List TLsp) × (List Int)
  | l6, out7, i15, [] => (l6, out7)
  | l6, out7, i15, x15 :: l15 => (bif decide (0 < by1) then
        (bif decide (0 < (l6.getD i15 default).Life) then
          (bif decide (((l6.set i15 (⟨(l6.getD i15 default).Level, IntKind.i64.wrap (((l6.getD i15 default).Life) - (min_ by1 ((l6.getD i15 default).Life))), (l6.getD i15 default).ID, (l6.getD i15 default).Seq, (l6.getD i15 default).Sum, (l6.getD i15 default).Bits, (l6.getD i15 default).Things⟩ : TLsp)).getD i15 default).Life = 0) then
            F26_link_Tick_l1 by1 (l6.set i15 (⟨(l6.getD i15 default).Level, IntKind.i64.wrap (((l6.getD i15 default).Life) - (min_ by1 ((l6.getD i15 default).Life))), (l6.getD i15 default).ID, (l6.getD i15 default).Seq, (l6.getD i15 default).Sum, (l6.getD i15 default).Bits, (l6.getD i15 default).Things⟩ : TLsp)) (out7 ++ ([(l6.getD i15 default).ID] : List Int)) (i15 + 1) l15
          else
            F26_link_Tick_l1 by1 (l6.set i15 (⟨(l6.getD i15 default).Level, IntKind.i64.wrap (((l6.getD i15 default).Life) - (min_ by1 ((l6.getD i15 default).Life))), (l6.getD i15 default).ID, (l6.getD i15 default).Seq, (l6.getD i15 default).Sum, (l6.getD i15 default).Bits, (l6.getD i15 default).Things⟩ : TLsp)) out7 (i15 + 1) l15)
        else
          F26_link_Tick_l1 by1 (l6.set i15 (⟨(l6.getD i15 default).Level, IntKind.i64.wrap (((l6.getD i15 default).Life) - (min_ by1 ((l6.getD i15 default).Life))), (l6.getD i15 default).ID, (l6.getD i15 default).Seq, (l6.getD i15 default).Sum, (l6.getD i15 default).Bits, (l6.getD i15 default).Things⟩ : TLsp)) out7 (i15 + 1) l15)
      else
        (bif decide (0 < (l6.getD i15 default).Life) then
          (bif decide ((l6.getD i15 default).Life = 0) then
            F26_link_Tick_l1 by1 l6 (out7 ++ ([(l6.getD i15 default).ID] : List Int)) (i15 + 1) l15
          else
            F26_link_Tick_l1 by1 l6 out7 (i15 + 1) l15)
        else
          F26_link_Tick_l1 by1 l6 out7 (i15 + 1) l15))
/-- crossroads/link.Tick -/
def F26_link_Tick (b0 : TBase) (by1 : Int) : TBase × (List Int) :=
  (match F26_link_Tick_l1 by1 b0.L ([] : List Int) 0 b0.L with
  | (l6, out7) => ((⟨b0.Level, b0.Max, l6, b0.Over⟩ : TBase), out7))

def F27_crossroadsref23_Tick_l1 (by1 : Int) : (out6 : List TLsp) → (ids7 : List Int) → List TLsp → (List TLsp) × (List Int)
  | out6, ids7, [] => (out6, ids7)
  | out6, ids7, x8 :: l8 => (bif decide (0 < by1) then
        (bif decide (max_ 0 (IntKind.i64.wrap (x8.Life - (min_ by1 65535))) = 0) then
          (bif decide (0 < x8.Life) then
            F27_crossroadsref23_Tick_l1 by1 (out6 ++ ([(⟨x8.Level, max_ 0 (IntKind.i64.wrap (x8.Life - (min_ by1 65535))), x8.ID, x8.Seq, x8.Sum, x8.Bits, x8.Things⟩ : TLsp)] : List TLsp)) (ids7 ++ ([x8.ID] : List Int)) l8
          else
            F27_crossroadsref23_Tick_l1 by1 (out6 ++ ([(⟨x8.Level, max_ 0 (IntKind.i64.wrap (x8.Life - (min_ by1 65535))), x8.ID, x8.Seq, x8.Sum, x8.Bits, x8.Things⟩ : TLsp)] : List TLsp)) ids7 l8)
        else
          F27_crossroadsref23_Tick_l1 by1 (out6 ++ ([(⟨x8.Level, max_ 0 (IntKind.i64.wrap (x8.Life - (min_ by1 65535))), x8.ID, x8.Seq, x8.Sum, x8.Bits, x8.Things⟩ : TLsp)] : List TLsp)) ids7 l8)
      else
        (bif decide (x8.Life = 0) then
          (bif decide (0 < x8.Life) then
            F27_crossroadsref23_Tick_l1 by1 (out6 ++ ([x8] : List TLsp)) (ids7 ++ ([x8.ID] : List Int)) l8
          else
            F27_crossroadsref23_Tick_l1 by1 (out6 ++ ([x8] : List TLsp)) ids7 l8)
        else
          F27_crossroadsref23_Tick_l1 by1 (out6 ++ ([x8] : List TLsp)) ids7 l8))
/-- crossroads/crossroadsref23.Tick -/
def F27_crossroadsref23_Tick (b0 : TBase) (by1 : Int) : TBase × (List Int) :=
  (match F27_crossroadsref23_Tick_l1 by1 ([] : List TLsp) ([] : List Int) b0.L with
  | (out6, ids7) => ((⟨b0.Level, b0.Max, out6, b0.Over⟩ : TBase), ids7))

def F28_crossroadsref23_IDs_l1 (b1 : List Int) : (i5 : Nat) → List Int → Except Bool Unit
  | i5, [] => .ok ()
  | i5, x5 :: l5 => (bif decide (x5 = (b1.getD i5 default)) then F28_crossroadsref23_IDs_l1 b1 (i5 + 1) l5 else .error (false))
/-- crossroads/crossroadsref23.IDs -/
def F28_crossroadsref23_IDs (a0 : List Int) (b1 : List Int) : Bool :=
  ((decide ((a0.length : Int) = (b1.length : Int))) && (match F28_crossroadsref23_IDs_l1 b1 0 a0 with
  | .error r => r
  | .ok _ => true))

def F54_crossroadsref23_Find_l1 (id1 : Int) : List TLsp → Except (TLsp × Bool) Unit
  | [] => .ok ()
  | x6 :: l6 => (bif decide (x6.ID = id1) then .error ((x6, true)) else F54_crossroadsref23_Find_l1 id1 l6)
/-- crossroads/crossroadsref23.Find -/
def F54_crossroadsref23_Find (b0 : TBase) (id1 : Int) : TLsp × Bool :=
  (match F54_crossroadsref23_Find_l1 id1 b0.L with
  | .error r => r
  | .ok _ => ((⟨0, 0, 0, 0, 0, 0, ([] : List TThing)⟩ : TLsp), false))

def F55_crossroadsref23_into_l1 (x1 : TLsp) : (put6 : Bool) → (out5 : List TLsp) → List TLsp → Bool × (List TLsp)
  | put6, out5, [] => (put6, out5)
  | put6, out5, x7 :: l7 => (bif put6 then
        (bif decide (x7.ID = x1.ID) then
          F55_crossroadsref23_into_l1 x1 true out5 l7
        else
          F55_crossroadsref23_into_l1 x1 true (out5 ++ ([x7] : List TLsp)) l7)
      else
        (bif decide (x1.ID ≤ x7.ID) then
          (bif decide (x7.ID = x1.ID) then
            F55_crossroadsref23_into_l1 x1 true (out5 ++ ([x1] : List TLsp)) l7
          else
            F55_crossroadsref23_into_l1 x1 true ((out5 ++ ([x1] : List TLsp)) ++ ([x7] : List TLsp)) l7)
        else
          (bif decide (x7.ID = x1.ID) then
            F55_crossroadsref23_into_l1 x1 false out5 l7
          else
            F55_crossroadsref23_into_l1 x1 false (out5 ++ ([x7] : List TLsp)) l7)))
/-- crossroads/crossroadsref23.into -/
def F55_crossroadsref23_into (b0 : TBase) (x1 : TLsp) : TBase :=
  (match F55_crossroadsref23_into_l1 x1 false ([] : List TLsp) b0.L with
  | (put6, out5) => (bif put6 then
      (⟨b0.Level, b0.Max, out5, b0.Over⟩ : TBase)
    else
      (⟨b0.Level, b0.Max, (out5 ++ ([x1] : List TLsp)), b0.Over⟩ : TBase)))

/-- crossroads/crossroadsref23.Entry -/
def F56_crossroadsref23_Entry (x0 : TLsp) : TEntry :=
  (⟨x0.Life, x0.ID, x0.Seq, x0.Sum⟩ : TEntry)

/-- crossroads/crossroadsref23.Put -/
def F29_crossroadsref23_Put (b0 : TBase) (x1 : TLsp) : TBase × Int × Int :=
  (let c13 := F53_crossroadsref23_mayLsp x1 b0.Level
   (bif c13 then
     (match F54_crossroadsref23_Find b0 x1.ID with
      | (c20a, c20b) => (bif c20b then
          (let c37 := F56_crossroadsref23_Entry x1
           (let c39 := F56_crossroadsref23_Entry c20a
            (let c40 := F9_crossroadsref23_Compare c37 c39
             (bif decide (0 < c40) then
               (let c45 := F55_crossroadsref23_into b0 x1
                (c45, 2, 0))
             else
               (b0, IntKind.i64.wrap (c40 + 1), 0)))))
        else
          (bif decide (b0.Max ≤ (b0.L.length : Int)) then
            ((⟨b0.Level, b0.Max, b0.L, true⟩ : TBase), 0, 8)
          else
            (let c35 := F55_crossroadsref23_into b0 x1
             (c35, 3, 0)))))
   else
     (b0, 0, 1)))

def F57_crossroadsref23_told_l1 (id1 : Int) : List TEntry → Except (TEntry × Bool) Unit
  | [] => .ok ()
  | x6 :: l6 => (bif decide (x6.ID = id1) then .error ((x6, true)) else F57_crossroadsref23_told_l1 id1 l6)
/-- crossroads/crossroadsref23.told -/
def F57_crossroadsref23_told (x0 : TList) (id1 : Int) : TEntry × Bool :=
  (match F57_crossroadsref23_told_l1 id1 x0.L with
  | .error r => r
  | .ok _ => ((⟨0, 0, 0, 0⟩ : TEntry), false))

def F31_crossroadsref23_Differ_l1 (b0 : TBase) (x1 : TList) : (ask7 : List TEntry) → (i12 : Nat) → List TEntry → (List TEntry)
  | ask7, i12, [] => ask7
  | ask7, i12, x12 :: l12 => (match F57_crossroadsref23_told (⟨0, false, 0, 0, 0, (x1.L.take i12)⟩ : TList) x12.ID with
       | (c94a, c94b) => (match F54_crossroadsref23_Find b0 x12.ID with
          | (c105a, c105b) => (bif c94b then
              F31_crossroadsref23_Differ_l1 b0 x1 ask7 (i12 + 1) l12
            else
              (bif decide (x12.Life = 0) then
                F31_crossroadsref23_Differ_l1 b0 x1 ask7 (i12 + 1) l12
              else
                (bif c105b then
                  (let c127 := F56_crossroadsref23_Entry c105a
                   (let c128 := F9_crossroadsref23_Compare x12 c127
                    (bif decide (c128 ≤ 0) then
                      F31_crossroadsref23_Differ_l1 b0 x1 ask7 (i12 + 1) l12
                    else
                      F31_crossroadsref23_Differ_l1 b0 x1 (ask7 ++ ([c127] : List TEntry)) (i12 + 1) l12)))
                else
                  F31_crossroadsref23_Differ_l1 b0 x1 (ask7 ++ ([(⟨0, x12.ID, 0, 0⟩ : TEntry)] : List TEntry)) (i12 + 1) l12)))))
def F31_crossroadsref23_Differ_l2 (x1 : TList) : (send6 : List Int) → List TLsp → (List Int)
  | send6, [] => send6
  | send6, x8 :: l8 => (let c32 := F56_crossroadsref23_Entry x8
       (match F57_crossroadsref23_told x1 c32.ID with
        | (c37a, c37b) => (bif c37b then
            (let c44 := F9_crossroadsref23_Compare c32 c37a
             (bif decide (0 < c44) then
               F31_crossroadsref23_Differ_l2 x1 (send6 ++ ([c32.ID] : List Int)) l8
             else
               F31_crossroadsref23_Differ_l2 x1 send6 l8))
          else
            (bif x1.Whole then
              (bif decide (x1.Low ≤ c32.ID) then
                (bif decide (c32.ID ≤ x1.High) then
                  F31_crossroadsref23_Differ_l2 x1 (send6 ++ ([c32.ID] : List Int)) l8
                else
                  F31_crossroadsref23_Differ_l2 x1 send6 l8)
              else
                F31_crossroadsref23_Differ_l2 x1 send6 l8)
            else
              F31_crossroadsref23_Differ_l2 x1 send6 l8))))
/-- crossroads/crossroadsref23.Differ -/
def F31_crossroadsref23_Differ (b0 : TBase) (x1 : TList) : (List Int) × (List TEntry) :=
  (let send6 := F31_crossroadsref23_Differ_l2 x1 ([] : List Int) b0.L
   (let ask7 := F31_crossroadsref23_Differ_l1 b0 x1 ([] : List TEntry) 0 x1.L
    (send6, ask7)))

def F34_crossroadslaw23_rows_l1  : (out3 : List TEntry) → List TEntry → (List TEntry)
  | out3, [] => out3
  | out3, x4 :: l4 => (let c17 := F10_crossroadslaw23_entry x4
       F34_crossroadslaw23_rows_l1 (out3 ++ ([c17] : List TEntry)) l4)
/-- crossroads/crossroadslaw23.rows -/
def F34_crossroadslaw23_rows (l0 : List TEntry) : (List TEntry) :=
  F34_crossroadslaw23_rows_l1 ([] : List TEntry) l0

/-- crossroads/crossroadslaw23.list -/
def F32_crossroadslaw23_list (x0 : TList) : TList :=
  (let c15 := F34_crossroadslaw23_rows x0.L
   (⟨x0.Level, x0.Whole, x0.Source, x0.Low, x0.High, c15⟩ : TList))

def F33_crossroadsref22_Entries_l1 (b1 : List TEntry) : (i5 : Nat) → List TEntry → Except Bool Unit
  | i5, [] => .ok ()
  | i5, x5 :: l5 => (bif decide (x5.Life = (b1.getD i5 default).Life) && (decide (x5.ID = (b1.getD i5 default).ID) && (decide (x5.Seq = (b1.getD i5 default).Seq) && (decide (x5.Sum = (b1.getD i5 default).Sum) && true))) then F33_crossroadsref22_Entries_l1 b1 (i5 + 1) l5 else .error (false))
/-- crossroads/crossroadsref22.Entries -/
def F33_crossroadsref22_Entries (a0 : List TEntry) (b1 : List TEntry) : Bool :=
  ((decide ((a0.length : Int) = (b1.length : Int))) && (match F33_crossroadsref22_Entries_l1 b1 0 a0 with
  | .error r => r
  | .ok _ => true))

def F35_crossroadsref23_List_l1 (low1 : Int) (high2 : Int) : (out7 : List TEntry) → List TLsp → (List TEntry)
  | out7, [] => out7
  | out7, x8 :: l8 => (bif decide (low1 ≤ x8.ID) then
        (bif decide (x8.ID ≤ high2) then
          (let c41 := F56_crossroadsref23_Entry x8
           F35_crossroadsref23_List_l1 low1 high2 (out7 ++ ([c41] : List TEntry)) l8)
        else
          F35_crossroadsref23_List_l1 low1 high2 out7 l8)
      else
        F35_crossroadsref23_List_l1 low1 high2 out7 l8)
/-- crossroads/crossroadsref23.List -/
def F35_crossroadsref23_List (b0 : TBase) (low1 : Int) (high2 : Int) : (List TEntry) :=
  F35_crossroadsref23_List_l1 low1 high2 ([] : List TEntry) b0.L

def F36_link_May_l1 (b0 : TBase) : (i10 : Nat) → List TLsp → Except Bool Unit
  | i10, [] => .ok ()
  | i10, x10 :: l10 => (let c17 := F48_link_Base_isOf b0 x10
       (bif c17 then
         (bif decide (0 < (i10 : Int)) then
           (bif decide (x10.ID ≤ (b0.L.getD (i10 - 1) default).ID) then .error (false) else F36_link_May_l1 b0 (i10 + 1) l10)
         else
           F36_link_May_l1 b0 (i10 + 1) l10)
       else
         .error (false)))
/-- crossroads/link.May -/
def F36_link_May (b0 : TBase) : Bool :=
  (match F36_link_May_l1 b0 0 b0.L with
  | .error r => r
  | .ok _ => 
    (match F24_link_New b0.Level b0.Max with
     | (c41a, c41b) => ((decide (c41b = 0)) && (decide ((b0.L.length : Int) ≤ b0.Max)))))

def F7_crossroadslaw23_LinkPlays_l1 (x2 : TList) : (b7 : TBase) → (m9 : TBase) → (i11 : Nat) → List TAct → Except Bool (TBase × TBase)
  | b7, m9, i11, [] => .ok (b7, m9)
  | b7, m9, i11, x11 :: l11 => (bif decide ((i11 : Int) < 60) then
        (let c93 := F12_crossroadslaw23_little x11.X
         (bif c93 then
           (bif x11.Tick then
             (match F26_link_Tick b7 x11.By with
              | (c103a, c103b) => (match F27_crossroadsref23_Tick m9 x11.By with
                 | (c110a, c110b) => (let c115 := F28_crossroadsref23_IDs c103b c110b
                    (bif c115 then
                      (match F18_link_Differ c103a x2 with
                       | (c149a, c149b) => (let c155 := F32_crossroadslaw23_list x2
                          (match F31_crossroadsref23_Differ c110a c155 with
                           | (c156a, c156b) => (let c160 := F23_crossroadslaw23_plain c103a
                              (let c162 := F22_crossroadsref23_Same c160 c110a
                               (bif c162 then
                                 (let c166 := F23_crossroadslaw23_plain b7
                                  (let c168 := F22_crossroadsref23_Same c166 m9
                                   (bif c168 then
                                     (let c174 := F28_crossroadsref23_IDs c149a c156a
                                      (bif c174 then
                                        (let c179 := F34_crossroadslaw23_rows c149b
                                         (let c181 := F33_crossroadsref22_Entries c179 c156b
                                          (bif c181 then
                                            (let c190 := F17_link_List c103a x2.Low x2.High
                                             (let c191 := F34_crossroadslaw23_rows c190
                                              (let c197 := F35_crossroadsref23_List c110a x2.Low x2.High
                                               (let c198 := F33_crossroadsref22_Entries c191 c197
                                                (bif c198 then
                                                  (let c203 := F36_link_May c103a
                                                   (bif c203 then F7_crossroadslaw23_LinkPlays_l1 x2 c103a c110a (i11 + 1) l11 else .error (false)))
                                                else
                                                  .error (false))))))
                                          else
                                            .error (false))))
                                      else
                                        .error (false)))
                                   else
                                     .error (false))))
                               else
                                 .error (false)))))))
                    else
                      .error (false)))))
           else
             (match F21_link_Put b7 x11.X with
              | (c123a, c123b, c123c) => (let c131 := F30_crossroadslaw23_lsp x11.X
                 (match F29_crossroadsref23_Put m9 c131 with
                  | (c132a, c132b, c132c) => (bif decide (c123b = c132b) then
                      (bif decide (c123c = c132c) then
                        (match F18_link_Differ c123a x2 with
                         | (c149a, c149b) => (let c155 := F32_crossroadslaw23_list x2
                            (match F31_crossroadsref23_Differ c132a c155 with
                             | (c156a, c156b) => (let c160 := F23_crossroadslaw23_plain c123a
                                (let c162 := F22_crossroadsref23_Same c160 c132a
                                 (bif c162 then
                                   (let c166 := F23_crossroadslaw23_plain b7
                                    (let c168 := F22_crossroadsref23_Same c166 m9
                                     (bif c168 then
                                       (let c174 := F28_crossroadsref23_IDs c149a c156a
                                        (bif c174 then
                                          (let c179 := F34_crossroadslaw23_rows c149b
                                           (let c181 := F33_crossroadsref22_Entries c179 c156b
                                            (bif c181 then
                                              (let c190 := F17_link_List c123a x2.Low x2.High
                                               (let c191 := F34_crossroadslaw23_rows c190
                                                (let c197 := F35_crossroadsref23_List c132a x2.Low x2.High
                                                 (let c198 := F33_crossroadsref22_Entries c191 c197
                                                  (bif c198 then
                                                    (let c203 := F36_link_May c123a
                                                     (bif c203 then F7_crossroadslaw23_LinkPlays_l1 x2 c123a c132a (i11 + 1) l11 else .error (false)))
                                                  else
                                                    .error (false))))))
                                            else
                                              .error (false))))
                                        else
                                          .error (false)))
                                     else
                                       .error (false))))
                                 else
                                   .error (false)))))))
                      else
                        .error (false))
                    else
                      .error (false))))))
         else
           F7_crossroadslaw23_LinkPlays_l1 x2 b7 m9 (i11 + 1) l11))
      else
        .ok (b7, m9))
/-- crossroads/crossroadslaw23.LinkPlays -/
def F7_crossroadslaw23_LinkPlays (size0 : TS) (script1 : List TAct) (x2 : TList) : Bool :=
  (match F24_link_New size0.e0 size0.e1 with
   | (c34a, c34b) => (match F25_crossroadsref23_New size0.e0 size0.e1 with
      | (c42a, c42b) => ((decide (c34b = c42b)) && (let c50 := F23_crossroadslaw23_plain c34a
         (let c52 := F22_crossroadsref23_Same c50 c42a
          (bif c52 then
            (bif decide (60 < (x2.L.length : Int)) then
              F11_crossroadslaw23_alive
            else
              (bif decide (c34b = 0) then
                (match F7_crossroadslaw23_LinkPlays_l1 x2 c34a c42a 0 script1 with
                | .error r => r
                | .ok (b7, m9) => F11_crossroadslaw23_alive)
              else
                F11_crossroadslaw23_alive))
          else
            ((decide (60 < (x2.L.length : Int))) && F11_crossroadslaw23_alive)))))))

end Go.Proofs.Ytpcpclbdajebjaa.Abs

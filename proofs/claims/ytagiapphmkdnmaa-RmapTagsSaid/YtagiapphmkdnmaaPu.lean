/- The functions of the program as Lean functions (printed by this work's own program gen.py). -/
import Derived.Test.YtagiapphmkdnmaaP0
set_option linter.unusedVariables false
namespace Go.Proofs.Ytagiapphmkdnmaa.Abs
open Go

structure TPrefix where
  A : Int
  N : Int
  deriving DecidableEq, Inhabited
structure TRule where
  Seq : Int
  Permit : Bool
  P : TPrefix
  Ge : Int
  Le : Int
  deriving DecidableEq, Inhabited
structure TClause where
  Seq : Int
  Permit : Bool
  Listf : List TRule
  MKind : Int
  MLow : Int
  MHigh : Int
  MTags : List Int
  SCost : Int
  SPlus : Int
  SKind : Int
  SetTag : Bool
  STag : Int
  deriving DecidableEq, Inhabited
structure TRoute where
  P : TPrefix
  Kind : Int
  Cost : Int
  Tag : Int
  deriving DecidableEq, Inhabited

def F7_crossroadslaw08_small_l1  : (i3 : Nat) → List TClause → Except Bool Unit
  | i3, [] => .ok ()
  | i3, x3 :: l3 => (bif decide ((i3 : Int) = 20) then
        .error (false)
      else
        (bif decide (20 < (x3.Listf.length : Int)) then
          .error (false)
        else
          (bif decide (20 < (x3.MTags.length : Int)) then .error (false) else F7_crossroadslaw08_small_l1 (i3 + 1) l3)))
/-- crossroads/crossroadslaw08.small -/
def F7_crossroadslaw08_small (m0 : List TClause) : Bool :=
  (match F7_crossroadslaw08_small_l1 0 m0 with
  | .error r => r
  | .ok _ => true)

/-- crossroads/crossroadsref08.in -/
def F27_crossroadsref08_in (n0 : Int) (low1 : Int) (high2 : Int) : Bool :=
  ((decide (low1 ≤ n0)) && (decide (n0 ≤ high2)))

/-- crossroads/crossroadsref03.Bit -/
def F60_crossroadsref03_Bit (a0 : Int) (i1 : Int) : Int :=
  (bif decide (i1 < 0) then
    0
  else
    (bif decide (31 < i1) then
      0
    else
      IntKind.i64.wrap (bit_and .u32 (shr_ .u32 a0 (IntKind.u64.wrap (IntKind.i64.wrap (31 - i1)))) 1)))

def F53_crossroadsref03_May_l1 (p0 : TPrefix) (fuel3 : Nat) (i3 : Int) : Except Bool Unit :=
  bif decide (i3 < 32) then
    match fuel3 with
    | 0 => .ok ()
    | fuel3 + 1 => (let c21 := F60_crossroadsref03_Bit p0.A i3
         (bif decide (c21 = 1) then .error (false) else F53_crossroadsref03_May_l1 p0 fuel3 (IntKind.i64.wrap (i3 + 1))))
  else .ok ()
/-- crossroads/crossroadsref03.May -/
def F53_crossroadsref03_May (p0 : TPrefix) : Bool :=
  (bif decide (p0.N < 0) then
    false
  else
    (bif decide (32 < p0.N) then
      false
    else
      (match F53_crossroadsref03_May_l1 p0 (fuelUp p0.N 32) p0.N with
      | .error r => r
      | .ok _ => true)))

/-- crossroads/crossroadsref07.May -/
def F46_crossroadsref07_May (x0 : TRule) : Bool :=
  (bif decide (x0.Seq < 1) then
    false
  else
    (bif decide (65535 < x0.Seq) then
      false
    else
      (let c14 := F53_crossroadsref03_May x0.P
       (c14 && (bif decide (x0.Ge = 0) then
         ((decide (x0.Le = 0)) || ((decide (x0.Ge ≤ x0.Le)) && ((decide (x0.P.N ≤ x0.Le)) && (decide (x0.Le ≤ 32)))))
       else
         (bif decide (x0.Ge ≤ x0.P.N) then
           false
         else
           (bif decide (32 < x0.Ge) then
             false
           else
             ((decide (x0.Le = 0)) || ((decide (x0.Ge ≤ x0.Le)) && ((decide (x0.P.N ≤ x0.Le)) && (decide (x0.Le ≤ 32))))))))))))

def F36_crossroadsref07_MayAll_l1 (l0 : List TRule) : (i3 : Nat) → List TRule → Except Bool Unit
  | i3, [] => .ok ()
  | i3, x3 :: l3 => (let c14 := F46_crossroadsref07_May x3
       (bif c14 then
         (bif decide (0 < (i3 : Int)) then
           (bif decide (x3.Seq ≤ (l0.getD (i3 - 1) default).Seq) then .error (false) else F36_crossroadsref07_MayAll_l1 l0 (i3 + 1) l3)
         else
           F36_crossroadsref07_MayAll_l1 l0 (i3 + 1) l3)
       else
         .error (false)))
/-- crossroads/crossroadsref07.MayAll -/
def F36_crossroadsref07_MayAll (l0 : List TRule) : Bool :=
  (match F36_crossroadsref07_MayAll_l1 l0 0 l0 with
  | .error r => r
  | .ok _ => true)

/-- crossroads/crossroadsref08.May -/
def F16_crossroadsref08_May (x0 : TClause) : Bool :=
  (let c5 := F27_crossroadsref08_in x0.Seq 1 65535
   (c5 && (let c9 := F36_crossroadsref07_MayAll x0.Listf
    (c9 && (let c14 := F27_crossroadsref08_in x0.MKind (-1) 9
     (c14 && (let c21 := F27_crossroadsref08_in x0.MLow 0 x0.MHigh
      (c21 && ((decide (x0.MHigh ≤ 16777215)) && (let c31 := F27_crossroadsref08_in x0.SCost (-1) 16777215
       (c31 && (let c36 := F27_crossroadsref08_in x0.SPlus 0 16777215
        (c36 && (F27_crossroadsref08_in x0.SKind (-1) 9))))))))))))))

def F8_crossroadsref08_MayAll_l1 (m0 : List TClause) : (i3 : Nat) → List TClause → Except Bool Unit
  | i3, [] => .ok ()
  | i3, x3 :: l3 => (let c14 := F16_crossroadsref08_May x3
       (bif c14 then
         (bif decide (0 < (i3 : Int)) then
           (bif decide (x3.Seq ≤ (m0.getD (i3 - 1) default).Seq) then .error (false) else F8_crossroadsref08_MayAll_l1 m0 (i3 + 1) l3)
         else
           F8_crossroadsref08_MayAll_l1 m0 (i3 + 1) l3)
       else
         .error (false)))
/-- crossroads/crossroadsref08.MayAll -/
def F8_crossroadsref08_MayAll (m0 : List TClause) : Bool :=
  (match F8_crossroadsref08_MayAll_l1 m0 0 m0 with
  | .error r => r
  | .ok _ => true)

/-- crossroads/crossroadslaw08.rule -/
def F37_crossroadslaw08_rule (x0 : TRule) : TRule :=
  x0

def F17_crossroadslaw08_plain_l1  : (l3 : List TRule) → List TRule → (List TRule)
  | l3, [] => l3
  | l3, x4 :: l4 => (let c19 := F37_crossroadslaw08_rule x4
       F17_crossroadslaw08_plain_l1 (l3 ++ ([c19] : List TRule)) l4)
/-- crossroads/crossroadslaw08.plain -/
def F17_crossroadslaw08_plain (x0 : TClause) : TClause :=
  (let l3 := F17_crossroadslaw08_plain_l1 ([] : List TRule) x0.Listf
   (⟨x0.Seq, x0.Permit, l3, x0.MKind, x0.MLow, x0.MHigh, x0.MTags, x0.SCost, x0.SPlus, x0.SKind, x0.SetTag, x0.STag⟩ : TClause))

def F9_crossroadslaw08_rows_l1  : (out3 : List TClause) → List TClause → (List TClause)
  | out3, [] => out3
  | out3, x4 :: l4 => (let c17 := F17_crossroadslaw08_plain x4
       F9_crossroadslaw08_rows_l1 (out3 ++ ([c17] : List TClause)) l4)
/-- crossroads/crossroadslaw08.rows -/
def F9_crossroadslaw08_rows (m0 : List TClause) : (List TClause) :=
  F9_crossroadslaw08_rows_l1 ([] : List TClause) m0

/-- crossroads/crossroadsref08.MayRoute -/
def F10_crossroadsref08_MayRoute (t0 : TRoute) : Bool :=
  (let c5 := F27_crossroadsref08_in t0.Kind 0 9
   (c5 && (F27_crossroadsref08_in t0.Cost 0 16777215)))

/-- crossroads/crossroadslaw08.route -/
def F11_crossroadslaw08_route (t0 : TRoute) : TRoute :=
  t0

/-- crossroads/rmap.Change -/
def F20_rmap_Change (x0 : TClause) (t1 : TRoute) : TRoute :=
  (bif decide (x0.SCost = (-1)) then
    (bif decide (x0.SKind = (-1)) then
      (bif x0.SetTag then
        (⟨t1.P, t1.Kind, min_ (IntKind.i64.wrap (t1.Cost + x0.SPlus)) 16777215, x0.STag⟩ : TRoute)
      else
        (⟨t1.P, t1.Kind, min_ (IntKind.i64.wrap (t1.Cost + x0.SPlus)) 16777215, t1.Tag⟩ : TRoute))
    else
      (bif x0.SetTag then
        (⟨t1.P, x0.SKind, min_ (IntKind.i64.wrap (t1.Cost + x0.SPlus)) 16777215, x0.STag⟩ : TRoute)
      else
        (⟨t1.P, x0.SKind, min_ (IntKind.i64.wrap (t1.Cost + x0.SPlus)) 16777215, t1.Tag⟩ : TRoute)))
  else
    (bif decide (x0.SKind = (-1)) then
      (bif x0.SetTag then
        (⟨t1.P, t1.Kind, min_ (IntKind.i64.wrap (x0.SCost + x0.SPlus)) 16777215, x0.STag⟩ : TRoute)
      else
        (⟨t1.P, t1.Kind, min_ (IntKind.i64.wrap (x0.SCost + x0.SPlus)) 16777215, t1.Tag⟩ : TRoute))
    else
      (bif x0.SetTag then
        (⟨t1.P, x0.SKind, min_ (IntKind.i64.wrap (x0.SCost + x0.SPlus)) 16777215, x0.STag⟩ : TRoute)
      else
        (⟨t1.P, x0.SKind, min_ (IntKind.i64.wrap (x0.SCost + x0.SPlus)) 16777215, t1.Tag⟩ : TRoute))))

def F28_slices_IndexFunc_l1 (hf1 : TClause → Bool) : (i8 : Nat) → List TClause → Except Int Unit
  | i8, [] => .ok ()
  | i8, x8 :: l8 => (let c16 := hf1 x8
       (bif c16 then .error ((i8 : Int)) else F28_slices_IndexFunc_l1 hf1 (i8 + 1) l8))
/-- slices.IndexFunc[[]crossroads/rmap.Clause,crossroads/rmap.Clause] -/
def F28_slices_IndexFunc (s0 : List TClause) (hf1 : TClause → Bool) : Int :=
  (match F28_slices_IndexFunc_l1 hf1 0 s0 with
  | .error r => r
  | .ok _ => (-1))

/-- crossroads/rmap.isIn -/
def F34_rmap_isIn (n0 : Int) (low1 : Int) (high2 : Int) : Bool :=
  ((decide (low1 ≤ n0)) && (decide (n0 ≤ high2)))

def F47_slices_IndexFunc_l1 (hf1 : TRule → Bool) : (i8 : Nat) → List TRule → Except Int Unit
  | i8, [] => .ok ()
  | i8, x8 :: l8 => (let c16 := hf1 x8
       (bif c16 then .error ((i8 : Int)) else F47_slices_IndexFunc_l1 hf1 (i8 + 1) l8))
/-- slices.IndexFunc[[]crossroads/plist.Rule,crossroads/plist.Rule] -/
def F47_slices_IndexFunc (s0 : List TRule) (hf1 : TRule → Bool) : Int :=
  (match F47_slices_IndexFunc_l1 hf1 0 s0 with
  | .error r => r
  | .ok _ => (-1))

/-- crossroads/addr.isLong -/
def F58_addr_isLong (n0 : Int) : Bool :=
  ((decide (0 ≤ n0)) && (decide (n0 ≤ 32)))

/-- crossroads/addr.Mask -/
def F59_addr_Mask (n0 : Int) : Int :=
  IntKind.u32.wrap (shl_ .u64 4294967295 (IntKind.i64.wrap (32 - (min_ (max_ n0 0) 32))))

/-- crossroads/addr.May -/
def F52_addr_May (p0 : TPrefix) : Bool :=
  (let c5 := F58_addr_isLong p0.N
   (c5 && (let c11 := F59_addr_Mask p0.N
    decide (bit_andNot .u32 p0.A c11 = 0))))

/-- crossroads/plist.May -/
def F42_plist_May (x0 : TRule) : Bool :=
  (bif decide (x0.Seq < 1) then
    false
  else
    (bif decide (65535 < x0.Seq) then
      false
    else
      (let c16 := F52_addr_May x0.P
       (c16 && (bif decide (x0.Ge = 0) then
         ((decide (x0.Le = 0)) || ((decide (max_ x0.Ge x0.P.N ≤ x0.Le)) && (decide (x0.Le ≤ 32))))
       else
         ((decide (x0.P.N < x0.Ge)) && (bif decide (x0.Le = 0) then
           decide (x0.Ge ≤ 32)
         else
           ((decide (max_ x0.Ge x0.P.N ≤ x0.Le)) && ((decide (x0.Ge ≤ 32)) && (decide (x0.Le ≤ 32)))))))))))

/-- (crossroads/plist.Rule).bounds -/
def F54_plist_Rule_bounds (x0 : TRule) : Int × Int :=
  (bif decide (x0.Ge = 0) then
    (bif decide (x0.Le = 0) then (x0.P.N, x0.P.N) else (x0.P.N, x0.Le))
  else
    (bif decide (x0.Le = 0) then (x0.Ge, 32) else (x0.Ge, x0.Le)))

/-- crossroads/addr.Has -/
def F61_addr_Has (p0 : TPrefix) (a1 : Int) : Bool :=
  (let c6 := F52_addr_May p0
   (c6 && (let c11 := F59_addr_Mask p0.N
    decide (bit_and .u32 a1 c11 = p0.A))))

/-- crossroads/addr.Covers -/
def F55_addr_Covers (p0 : TPrefix) (q1 : TPrefix) : Bool :=
  (let c6 := F52_addr_May q1
   (c6 && ((decide (p0.N ≤ q1.N)) && (F61_addr_Has p0 q1.A))))

/-- crossroads/plist.Means -/
def F49_plist_Means (x0 : TRule) (q1 : TPrefix) : Bool :=
  (match F54_plist_Rule_bounds x0 with
   | (c9a, c9b) => (let c13 := F42_plist_May x0
      (c13 && (let c18 := F55_addr_Covers x0.P q1
       (c18 && ((decide (c9a ≤ q1.N)) && (decide (q1.N ≤ c9b))))))))

/-- crossroads/plist.Eval$1 -/
def F48_plist_Eval_1 (x0 : TRule) (a1 : TPrefix) : Bool :=
  F49_plist_Means x0 a1

/-- crossroads/plist.Eval -/
def F38_plist_Eval (l0 : List TRule) (q1 : TPrefix) : Bool × Int :=
  (let c9 := F47_slices_IndexFunc l0 (fun y0 => F48_plist_Eval_1 y0 q1)
   (bif decide (c9 < 0) then (false, 0) else ((l0.getD c9.toNat default).Permit, (l0.getD c9.toNat default).Seq)))

def F50_slices_Index_l1 (v1 : Int) : (i8 : Nat) → List Int → Except Int Unit
  | i8, [] => .ok ()
  | i8, x8 :: l8 => (bif decide (v1 = x8) then .error ((i8 : Int)) else F50_slices_Index_l1 v1 (i8 + 1) l8)
/-- slices.Index[[]uint32,uint32] -/
def F50_slices_Index (s0 : List Int) (v1 : Int) : Int :=
  (match F50_slices_Index_l1 v1 0 s0 with
  | .error r => r
  | .ok _ => (-1))

/-- slices.Contains[[]uint32,uint32] -/
def F39_slices_Contains (s0 : List Int) (v1 : Int) : Bool :=
  (let c7 := F50_slices_Index s0 v1
   decide (0 ≤ c7))

/-- crossroads/rmap.Matches -/
def F18_rmap_Matches (x0 : TClause) (t1 : TRoute) : Bool :=
  (bif decide (0 < (x0.Listf.length : Int)) then
    (match F38_plist_Eval x0.Listf t1.P with
     | (c17a, c17b) => (bif decide (x0.MKind = (-1)) then
         (bif decide ((x0.MTags.length : Int) = 0) then
           (c17a && (F34_rmap_isIn t1.Cost x0.MLow x0.MHigh))
         else
           (let c39 := F39_slices_Contains x0.MTags t1.Tag
            (c17a && (c39 && (F34_rmap_isIn t1.Cost x0.MLow x0.MHigh)))))
       else
         (bif decide ((x0.MTags.length : Int) = 0) then
           (c17a && ((decide (x0.MKind = t1.Kind)) && (F34_rmap_isIn t1.Cost x0.MLow x0.MHigh)))
         else
           (let c39 := F39_slices_Contains x0.MTags t1.Tag
            (c17a && ((decide (x0.MKind = t1.Kind)) && (c39 && (F34_rmap_isIn t1.Cost x0.MLow x0.MHigh))))))))
  else
    (bif decide (x0.MKind = (-1)) then
      (bif decide ((x0.MTags.length : Int) = 0) then
        F34_rmap_isIn t1.Cost x0.MLow x0.MHigh
      else
        (let c39 := F39_slices_Contains x0.MTags t1.Tag
         (c39 && (F34_rmap_isIn t1.Cost x0.MLow x0.MHigh))))
    else
      (bif decide ((x0.MTags.length : Int) = 0) then
        ((decide (x0.MKind = t1.Kind)) && (F34_rmap_isIn t1.Cost x0.MLow x0.MHigh))
      else
        (let c39 := F39_slices_Contains x0.MTags t1.Tag
         ((decide (x0.MKind = t1.Kind)) && (c39 && (F34_rmap_isIn t1.Cost x0.MLow x0.MHigh)))))))

/-- crossroads/rmap.Eval$1 -/
def F29_rmap_Eval_1 (x0 : TClause) (a1 : TRoute) : Bool :=
  F18_rmap_Matches x0 a1

/-- crossroads/rmap.Eval -/
def F13_rmap_Eval (m0 : List TClause) (t1 : TRoute) : TRoute × Bool × Int :=
  (let c10 := F28_slices_IndexFunc m0 (fun y0 => F29_rmap_Eval_1 y0 t1)
   (bif decide (c10 < 0) then
     ((⟨(⟨0, 0⟩ : TPrefix), 0, 0, 0⟩ : TRoute), false, 0)
   else
     (bif (m0.getD c10.toNat default).Permit then
       (let c33 := F20_rmap_Change (m0.getD c10.toNat default) t1
        (c33, true, (m0.getD c10.toNat default).Seq))
     else
       ((⟨(⟨0, 0⟩ : TPrefix), 0, 0, 0⟩ : TRoute), false, (m0.getD c10.toNat default).Seq))))

/-- crossroads/rmap.isList$1 -/
def F41_rmap_isList_1 (x0 : TRule) : Bool :=
  (let c4 := F42_plist_May x0
   !c4)

/-- slices.ContainsFunc[[]crossroads/plist.Rule,crossroads/plist.Rule] -/
def F43_slices_ContainsFunc (s0 : List TRule) (hf1 : TRule → Bool) : Bool :=
  (let c7 := F47_slices_IndexFunc s0 hf1
   decide (0 ≤ c7))

def F44_rmap_rises_l1 (l0 : List TRule) (hnumber1 : TRule → Int) : (i8 : Nat) → List TRule → Except Bool Unit
  | i8, [] => .ok ()
  | i8, x8 :: l8 => (bif decide (0 < (i8 : Int)) then
        (let c19 := hnumber1 x8
         (let c26 := hnumber1 (⟨(l0.getD (i8 - 1) default).Seq, (l0.getD (i8 - 1) default).Permit, ((l0.getD (i8 - 1) default).P), (l0.getD (i8 - 1) default).Ge, (l0.getD (i8 - 1) default).Le⟩ : TRule)
          (bif decide (c19 ≤ c26) then .error (false) else F44_rmap_rises_l1 l0 hnumber1 (i8 + 1) l8)))
      else
        F44_rmap_rises_l1 l0 hnumber1 (i8 + 1) l8)
/-- crossroads/rmap.rises[crossroads/plist.Rule] -/
def F44_rmap_rises (l0 : List TRule) (hnumber1 : TRule → Int) : Bool :=
  (match F44_rmap_rises_l1 l0 hnumber1 0 l0 with
  | .error r => r
  | .ok _ => true)

/-- crossroads/rmap.isList$2 -/
def F45_rmap_isList_2 (x0 : TRule) : Int :=
  x0.Seq

/-- crossroads/rmap.isList -/
def F35_rmap_isList (l0 : List TRule) : Bool :=
  (let c6 := F43_slices_ContainsFunc l0 (fun y0 => F41_rmap_isList_1 y0)
   (bif c6 then false else F44_rmap_rises l0 (fun y0 => F45_rmap_isList_2 y0)))

/-- crossroads/rmap.May -/
def F15_rmap_May (x0 : TClause) : Bool :=
  (let c7 := F34_rmap_isIn x0.MKind (-1) 9
   (bif c7 then
     (let c13 := F34_rmap_isIn x0.MLow 0 x0.MHigh
      (bif c13 then
        (let c22 := F34_rmap_isIn x0.SCost (-1) 16777215
         (bif c22 then
           (let c26 := F34_rmap_isIn x0.SPlus 0 16777215
            (bif c26 then
              (let c31 := F34_rmap_isIn x0.SKind (-1) 9
               (let c35 := F34_rmap_isIn x0.Seq 1 65535
                (c35 && ((decide (x0.MHigh ≤ 16777215)) && (c31 && (F35_rmap_isList x0.Listf))))))
            else
              (let c35 := F34_rmap_isIn x0.Seq 1 65535
               false)))
         else
           (let c35 := F34_rmap_isIn x0.Seq 1 65535
            false)))
      else
        (let c22 := F34_rmap_isIn x0.SCost (-1) 16777215
         (bif c22 then
           (let c26 := F34_rmap_isIn x0.SPlus 0 16777215
            (bif c26 then
              (let c31 := F34_rmap_isIn x0.SKind (-1) 9
               (let c35 := F34_rmap_isIn x0.Seq 1 65535
                false))
            else
              (let c35 := F34_rmap_isIn x0.Seq 1 65535
               false)))
         else
           (let c35 := F34_rmap_isIn x0.Seq 1 65535
            false)))))
   else
     (let c22 := F34_rmap_isIn x0.SCost (-1) 16777215
      (bif c22 then
        (let c26 := F34_rmap_isIn x0.SPlus 0 16777215
         (bif c26 then
           (let c31 := F34_rmap_isIn x0.SKind (-1) 9
            (let c35 := F34_rmap_isIn x0.Seq 1 65535
             false))
         else
           (let c35 := F34_rmap_isIn x0.Seq 1 65535
            false)))
      else
        (let c35 := F34_rmap_isIn x0.Seq 1 65535
         false)))))

/-- crossroads/crossroadslaw08.alive -/
def F12_crossroadslaw08_alive : Bool :=
  (match F13_rmap_Eval ([(⟨1, true, ([] : List TRule), (-1), 0, 10, ([] : List Int), (-1), 2, 3, true, 9⟩ : TClause)] : List TClause) (⟨(⟨0, 0⟩ : TPrefix), 0, 5, 0⟩ : TRoute) with
   | (c14a, c14b, c14c) => (match F13_rmap_Eval ([] : List TClause) (⟨(⟨0, 0⟩ : TPrefix), 0, 0, 0⟩ : TRoute) with
      | (c20a, c20b, c20c) => (let c25 := F15_rmap_May (⟨1, true, ([] : List TRule), (-1), 0, 10, ([] : List Int), (-1), 2, 3, true, 9⟩ : TClause)
         (c25 && (c14b && ((decide (c14c = 1)) && ((decide (c14a.P.A = 0) && (decide (c14a.P.N = 0) && (decide (c14a.Kind = 3) && (decide (c14a.Cost = 7) && (decide (c14a.Tag = 9) && true))))) && (bif c20b then false else decide (c20c = 0)))))))))

def F3_crossroadslaw08_RmapTags_l1  : (deny13 : List TClause) → (i14 : Nat) → List TClause → (List TClause)
  | deny13, i14, [] => deny13
  | deny13, i14, x14 :: l14 => F3_crossroadslaw08_RmapTags_l1 (deny13 ++ ([(⟨IntKind.i64.wrap ((i14 : Int) + 2), x14.Permit, x14.Listf, x14.MKind, x14.MLow, x14.MHigh, x14.MTags, x14.SCost, x14.SPlus, x14.SKind, x14.SetTag, x14.STag⟩ : TClause)] : List TClause)) (i14 + 1) l14
def F3_crossroadslaw08_RmapTags_l2 (tag2 : Int) : (k7 : List TClause) → List TClause → (List TClause)
  | k7, [] => k7
  | k7, x8 :: l8 => F3_crossroadslaw08_RmapTags_l2 tag2 (k7 ++ ([(⟨x8.Seq, x8.Permit, x8.Listf, x8.MKind, x8.MLow, x8.MHigh, x8.MTags, x8.SCost, x8.SPlus, x8.SKind, true, tag2⟩ : TClause)] : List TClause)) l8
/-- crossroads/crossroadslaw08.RmapTags -/
def F3_crossroadslaw08_RmapTags (m0 : List TClause) (t1 : TRoute) (tag2 : Int) : Bool :=
  (let c20 := F7_crossroadslaw08_small m0
   (bif c20 then
     (let c24 := F9_crossroadslaw08_rows m0
      (let c25 := F8_crossroadsref08_MayAll c24
       (bif c25 then
         (let c30 := F11_crossroadslaw08_route t1
          (let c31 := F10_crossroadsref08_MayRoute c30
           (bif c31 then
             (let k7 := F3_crossroadslaw08_RmapTags_l2 tag2 ([] : List TClause) m0
              (match F13_rmap_Eval k7 t1 with
               | (c56a, c56b, c56c) => (let deny13 := F3_crossroadslaw08_RmapTags_l1 ([(⟨1, false, ([] : List TRule), (-1), 0, 16777215, ([tag2] : List Int), (-1), 0, (-1), false, 0⟩ : TClause)] : List TClause) 0 m0
                  (match F13_rmap_Eval deny13 t1 with
                   | (c84a, c84b, c84c) => (bif c56b then
                       ((decide (c56a.Tag = tag2)) && ((decide (c56a.P.A = t1.P.A) && (decide (c56a.P.N = t1.P.N) && true)) && (let c103 := F11_crossroadslaw08_route c56a
                        (let c104 := F10_crossroadsref08_MayRoute c103
                         (c104 && (let c108 := F12_crossroadslaw08_alive
                          (c108 && (bif c84b then !decide (t1.Tag = tag2) else true))))))))
                     else
                       (let c108 := F12_crossroadslaw08_alive
                        (c108 && (bif c84b then !decide (t1.Tag = tag2) else true))))))))
           else
             F12_crossroadslaw08_alive)))
       else
         F12_crossroadslaw08_alive)))
   else
     F12_crossroadslaw08_alive))

/-- crossroads/rmap.MayAll$1 -/
def F30_rmap_MayAll_1 (x0 : TClause) : Bool :=
  (let c4 := F15_rmap_May x0
   !c4)

/-- slices.ContainsFunc[[]crossroads/rmap.Clause,crossroads/rmap.Clause] -/
def F31_slices_ContainsFunc (s0 : List TClause) (hf1 : TClause → Bool) : Bool :=
  (let c7 := F28_slices_IndexFunc s0 hf1
   decide (0 ≤ c7))

def F32_rmap_rises_l1 (l0 : List TClause) (hnumber1 : TClause → Int) : (i8 : Nat) → List TClause → Except Bool Unit
  | i8, [] => .ok ()
  | i8, x8 :: l8 => (bif decide (0 < (i8 : Int)) then
        (let c19 := hnumber1 x8
         (let c26 := hnumber1 (l0.getD (i8 - 1) default)
          (bif decide (c19 ≤ c26) then .error (false) else F32_rmap_rises_l1 l0 hnumber1 (i8 + 1) l8)))
      else
        F32_rmap_rises_l1 l0 hnumber1 (i8 + 1) l8)
/-- crossroads/rmap.rises[crossroads/rmap.Clause] -/
def F32_rmap_rises (l0 : List TClause) (hnumber1 : TClause → Int) : Bool :=
  (match F32_rmap_rises_l1 l0 hnumber1 0 l0 with
  | .error r => r
  | .ok _ => true)

/-- crossroads/rmap.MayAll$2 -/
def F33_rmap_MayAll_2 (x0 : TClause) : Int :=
  x0.Seq

/-- crossroads/rmap.MayAll -/
def F14_rmap_MayAll (m0 : List TClause) : Bool :=
  (let c6 := F31_slices_ContainsFunc m0 (fun y0 => F30_rmap_MayAll_1 y0)
   (bif c6 then false else F32_rmap_rises m0 (fun y0 => F33_rmap_MayAll_2 y0)))

/-- crossroads/crossroadsref07.Bounds -/
def F56_crossroadsref07_Bounds (x0 : TRule) : Int × Int :=
  (bif decide (x0.Ge = 0) then
    (bif decide (x0.Le = 0) then (x0.P.N, x0.P.N) else (x0.P.N, x0.Le))
  else
    (bif decide (x0.Le = 0) then (x0.Ge, 32) else (x0.Ge, x0.Le)))

def F62_crossroadsref03_Has_l1 (p0 : TPrefix) (a1 : Int) (fuel5 : Nat) (i5 : Int) : Except Bool Unit :=
  bif decide (i5 < p0.N) then
    match fuel5 with
    | 0 => .ok ()
    | fuel5 + 1 => (let c18 := F60_crossroadsref03_Bit p0.A i5
         (let c21 := F60_crossroadsref03_Bit a1 i5
          (bif decide (c18 = c21) then F62_crossroadsref03_Has_l1 p0 a1 fuel5 (IntKind.i64.wrap (i5 + 1)) else .error (false))))
  else .ok ()
/-- crossroads/crossroadsref03.Has -/
def F62_crossroadsref03_Has (p0 : TPrefix) (a1 : Int) : Bool :=
  (let c7 := F53_crossroadsref03_May p0
   (c7 && (match F62_crossroadsref03_Has_l1 p0 a1 (fuelUp 0 p0.N) 0 with
   | .error r => r
   | .ok _ => true)))

/-- crossroads/crossroadsref03.Covers -/
def F57_crossroadsref03_Covers (p0 : TPrefix) (q1 : TPrefix) : Bool :=
  (let c6 := F53_crossroadsref03_May p0
   (c6 && (let c9 := F53_crossroadsref03_May q1
    (c9 && ((decide (p0.N ≤ q1.N)) && (F62_crossroadsref03_Has p0 q1.A))))))

/-- crossroads/crossroadsref07.Means -/
def F51_crossroadsref07_Means (x0 : TRule) (q1 : TPrefix) : Bool :=
  (match F56_crossroadsref07_Bounds x0 with
   | (c9a, c9b) => (let c13 := F46_crossroadsref07_May x0
      (c13 && (let c18 := F57_crossroadsref03_Covers x0.P q1
       (c18 && ((decide (c9a ≤ q1.N)) && (decide (q1.N ≤ c9b))))))))

def F40_crossroadsref07_Eval_l1 (q1 : TPrefix) : List TRule → Except (Bool × Int) Unit
  | [] => .ok ()
  | x6 :: l6 => (let c18 := F51_crossroadsref07_Means x6 q1
       (bif c18 then .error ((x6.Permit, x6.Seq)) else F40_crossroadsref07_Eval_l1 q1 l6))
/-- crossroads/crossroadsref07.Eval -/
def F40_crossroadsref07_Eval (l0 : List TRule) (q1 : TPrefix) : Bool × Int :=
  (match F40_crossroadsref07_Eval_l1 q1 l0 with
  | .error r => r
  | .ok _ => (false, 0))

def F19_crossroadsref08_Matches_l1 (t1 : TRoute) : (tag7 : Bool) → List Int → Bool
  | tag7, [] => tag7
  | tag7, x8 :: l8 => (bif tag7 then F19_crossroadsref08_Matches_l1 t1 true l8 else F19_crossroadsref08_Matches_l1 t1 (decide (x8 = t1.Tag)) l8)
def F19_crossroadsref08_Matches_l2 (t1 : TRoute) : (tag7 : Bool) → List Int → Bool
  | tag7, [] => tag7
  | tag7, x8 :: l8 => (bif tag7 then
        F19_crossroadsref08_Matches_l2 t1 true l8
      else
        F19_crossroadsref08_Matches_l2 t1 (decide (x8 = t1.Tag)) l8)
/-- crossroads/crossroadsref08.Matches -/
def F19_crossroadsref08_Matches (x0 : TClause) (t1 : TRoute) : Bool :=
  (bif decide (0 < (x0.Listf.length : Int)) then
    (match F40_crossroadsref07_Eval x0.Listf t1.P with
     | (c18a, c18b) => (c18a && (bif decide (x0.MKind = (-1)) then
         (let c40 := F27_crossroadsref08_in t1.Cost x0.MLow x0.MHigh
          (c40 && (F19_crossroadsref08_Matches_l2 t1 (decide ((x0.MTags.length : Int) = 0)) x0.MTags)))
       else
         ((decide (x0.MKind = t1.Kind)) && (let c40 := F27_crossroadsref08_in t1.Cost x0.MLow x0.MHigh
          (c40 && (F19_crossroadsref08_Matches_l2 t1 (decide ((x0.MTags.length : Int) = 0)) x0.MTags)))))))
  else
    (bif decide (x0.MKind = (-1)) then
      (let c40 := F27_crossroadsref08_in t1.Cost x0.MLow x0.MHigh
       (c40 && (F19_crossroadsref08_Matches_l2 t1 (decide ((x0.MTags.length : Int) = 0)) x0.MTags)))
    else
      ((decide (x0.MKind = t1.Kind)) && (let c40 := F27_crossroadsref08_in t1.Cost x0.MLow x0.MHigh
       (c40 && (F19_crossroadsref08_Matches_l1 t1 (decide ((x0.MTags.length : Int) = 0)) x0.MTags))))))

/-- crossroads/crossroadsref08.Change -/
def F21_crossroadsref08_Change (x0 : TClause) (t1 : TRoute) : TRoute :=
  (bif decide (x0.SCost = (-1)) then
    (bif decide (x0.SKind = (-1)) then
      (bif x0.SetTag then
        (⟨t1.P, t1.Kind, min_ (IntKind.i64.wrap (t1.Cost + x0.SPlus)) 16777215, x0.STag⟩ : TRoute)
      else
        (⟨t1.P, t1.Kind, min_ (IntKind.i64.wrap (t1.Cost + x0.SPlus)) 16777215, t1.Tag⟩ : TRoute))
    else
      (bif x0.SetTag then
        (⟨t1.P, x0.SKind, min_ (IntKind.i64.wrap (t1.Cost + x0.SPlus)) 16777215, x0.STag⟩ : TRoute)
      else
        (⟨t1.P, x0.SKind, min_ (IntKind.i64.wrap (t1.Cost + x0.SPlus)) 16777215, t1.Tag⟩ : TRoute)))
  else
    (bif decide (x0.SKind = (-1)) then
      (bif x0.SetTag then
        (⟨t1.P, t1.Kind, min_ (IntKind.i64.wrap (x0.SCost + x0.SPlus)) 16777215, x0.STag⟩ : TRoute)
      else
        (⟨t1.P, t1.Kind, min_ (IntKind.i64.wrap (x0.SCost + x0.SPlus)) 16777215, t1.Tag⟩ : TRoute))
    else
      (bif x0.SetTag then
        (⟨t1.P, x0.SKind, min_ (IntKind.i64.wrap (x0.SCost + x0.SPlus)) 16777215, x0.STag⟩ : TRoute)
      else
        (⟨t1.P, x0.SKind, min_ (IntKind.i64.wrap (x0.SCost + x0.SPlus)) 16777215, t1.Tag⟩ : TRoute))))

def F4_crossroadslaw08_RmapClause_l1 (t1 : TRoute) : List TClause → Except Bool Unit
  | [] => .ok ()
  | x5 :: l5 => (let c26 := F15_rmap_May x5
       (let c31 := F17_crossroadslaw08_plain x5
        (let c32 := F16_crossroadsref08_May c31
         (bif c26 == c32 then
           (((bif c32 then
               (let c43 := F11_crossroadslaw08_route t1
                (let c44 := F10_crossroadsref08_MayRoute c43
                 (bif c44 then
                   (let c52 := F18_rmap_Matches x5 t1
                    (((let c60 := F19_crossroadsref08_Matches c31 c43
                       (bif c52 == c60 then
                         (let c68 := F20_rmap_Change x5 t1
                          (let c69 := F11_crossroadslaw08_route c68
                           (((let c77 := F21_crossroadsref08_Change c31 c43
                              (bif decide (c69.P.A = c77.P.A) && (decide (c69.P.N = c77.P.N) && (decide (c69.Kind = c77.Kind) && (decide (c69.Cost = c77.Cost) && (decide (c69.Tag = c77.Tag) && true)))) then F4_crossroadslaw08_RmapClause_l1 t1 l5 else .error (false)))))))
                       else
                         .error (false))))))
                 else
                   F4_crossroadslaw08_RmapClause_l1 t1 l5)))
             else
               F4_crossroadslaw08_RmapClause_l1 t1 l5)))
         else
           .error (false)))))
/-- crossroads/crossroadslaw08.RmapClause -/
def F4_crossroadslaw08_RmapClause (m0 : List TClause) (t1 : TRoute) : Bool :=
  (let c7 := F7_crossroadslaw08_small m0
   (bif c7 then
     (let c11 := F14_rmap_MayAll m0
      (let c13 := F9_crossroadslaw08_rows m0
       (let c14 := F8_crossroadsref08_MayAll c13
        ((c11 == c14) && (match F4_crossroadslaw08_RmapClause_l1 t1 m0 with
        | .error r => r
        | .ok _ => F12_crossroadslaw08_alive)))))
   else
     F12_crossroadslaw08_alive))

def F22_crossroadsref08_Eval_l1 (t1 : TRoute) : List TClause → Except (TRoute × Bool × Int) Unit
  | [] => .ok ()
  | x7 :: l7 => (let c19 := F19_crossroadsref08_Matches x7 t1
       (bif c19 then
         (bif x7.Permit then
           (let c30 := F21_crossroadsref08_Change x7 t1
            .error ((c30, true, x7.Seq)))
         else
           .error (((⟨(⟨0, 0⟩ : TPrefix), 0, 0, 0⟩ : TRoute), false, x7.Seq)))
       else
         F22_crossroadsref08_Eval_l1 t1 l7))
/-- crossroads/crossroadsref08.Eval -/
def F22_crossroadsref08_Eval (m0 : List TClause) (t1 : TRoute) : TRoute × Bool × Int :=
  (match F22_crossroadsref08_Eval_l1 t1 m0 with
  | .error r => r
  | .ok _ => ((⟨(⟨0, 0⟩ : TPrefix), 0, 0, 0⟩ : TRoute), false, 0))

/-- crossroads/rmap.Then -/
def F23_rmap_Then (m0 : List TClause) (n1 : List TClause) (t2 : TRoute) : TRoute × Bool :=
  (match F13_rmap_Eval m0 t2 with
   | (c16a, c16b, c16c) => (bif c16b then
       (match F13_rmap_Eval n1 c16a with
        | (c26a, c26b, c26c) => (c26a, c26b))
     else
       ((⟨(⟨0, 0⟩ : TPrefix), 0, 0, 0⟩ : TRoute), false)))

/-- crossroads/crossroadsref08.Then -/
def F24_crossroadsref08_Then (m0 : List TClause) (n1 : List TClause) (t2 : TRoute) : TRoute × Bool :=
  (match F22_crossroadsref08_Eval m0 t2 with
   | (c17a, c17b, c17c) => (bif c17b then
       (match F22_crossroadsref08_Eval n1 c17a with
        | (c27a, c27b, c27c) => (c27a, c27b))
     else
       ((⟨(⟨0, 0⟩ : TPrefix), 0, 0, 0⟩ : TRoute), false)))

/-- crossroads/crossroadslaw08.RmapEval -/
def F5_crossroadslaw08_RmapEval (m0 : List TClause) (n1 : List TClause) (t2 : TRoute) : Bool :=
  (let c18 := F7_crossroadslaw08_small m0
   (bif c18 then
     (let c22 := F7_crossroadslaw08_small n1
      (bif c22 then
        (let c27 := F9_crossroadslaw08_rows m0
         (let c28 := F8_crossroadsref08_MayAll c27
          (bif c28 then
            (let c33 := F9_crossroadslaw08_rows n1
             (let c34 := F8_crossroadsref08_MayAll c33
              (bif c34 then
                (let c39 := F11_crossroadslaw08_route t2
                 (let c40 := F10_crossroadsref08_MayRoute c39
                  (bif c40 then
                    (match F13_rmap_Eval m0 t2 with
                     | (c47a, c47b, c47c) => (((match F22_crossroadsref08_Eval c27 c39 with
                          | (c56a, c56b, c56c) => (match F23_rmap_Then m0 n1 t2 with
                             | (c64a, c64b) => ((((match F24_crossroadsref08_Then c27 c33 c39 with
                                   | (c74a, c74b) => (let c77 := F12_crossroadslaw08_alive
                                      (c77 && (let c80 := F11_crossroadslaw08_route c47a
                                       ((decide (c80.P.A = c56a.P.A) && (decide (c80.P.N = c56a.P.N) && (decide (c80.Kind = c56a.Kind) && (decide (c80.Cost = c56a.Cost) && (decide (c80.Tag = c56a.Tag) && true))))) && ((c47b == c56b) && ((decide (c47c = c56c)) && (let c96 := F11_crossroadslaw08_route c64a
                                        ((decide (c96.P.A = c74a.P.A) && (decide (c96.P.N = c74a.P.N) && (decide (c96.Kind = c74a.Kind) && (decide (c96.Cost = c74a.Cost) && (decide (c96.Tag = c74a.Tag) && true))))) && (c64b == c74b))))))))))))))))))
                  else
                    F12_crossroadslaw08_alive)))
              else
                F12_crossroadslaw08_alive)))
          else
            F12_crossroadslaw08_alive)))
      else
        F12_crossroadslaw08_alive))
   else
     F12_crossroadslaw08_alive))

def F25_rmap_Filter_l1 (m0 : List TClause) : (out5 : List TRoute) → List TRoute → (List TRoute)
  | out5, [] => out5
  | out5, x13 :: l13 => (match F13_rmap_Eval m0 x13 with
       | (c20a, c20b, c20c) => (bif c20b then
           F25_rmap_Filter_l1 m0 (out5 ++ ([c20a] : List TRoute)) l13
         else
           F25_rmap_Filter_l1 m0 out5 l13))
/-- crossroads/rmap.Filter -/
def F25_rmap_Filter (m0 : List TClause) (l1 : List TRoute) : (List TRoute) :=
  F25_rmap_Filter_l1 m0 ([] : List TRoute) l1

def F26_crossroadsref08_Filter_l1 (m0 : List TClause) : (out5 : List TRoute) → List TRoute → (List TRoute)
  | out5, [] => out5
  | out5, x6 :: l6 => (match F22_crossroadsref08_Eval m0 x6 with
       | (c23a, c23b, c23c) => (bif c23b then
           F26_crossroadsref08_Filter_l1 m0 (out5 ++ ([c23a] : List TRoute)) l6
         else
           F26_crossroadsref08_Filter_l1 m0 out5 l6))
/-- crossroads/crossroadsref08.Filter -/
def F26_crossroadsref08_Filter (m0 : List TClause) (l1 : List TRoute) : (List TRoute) :=
  F26_crossroadsref08_Filter_l1 m0 ([] : List TRoute) l1

def F6_crossroadslaw08_RmapFilter_l2 (c55 : List TRoute) : (i9 : Nat) → List TRoute → Except Bool Unit
  | i9, [] => .ok ()
  | i9, x9 :: l9 => (let c71 := F11_crossroadslaw08_route x9
       (bif decide (c71.P.A = ((c55.getD i9 default).P).A) && (decide (c71.P.N = ((c55.getD i9 default).P).N) && (decide (c71.Kind = (c55.getD i9 default).Kind) && (decide (c71.Cost = (c55.getD i9 default).Cost) && (decide (c71.Tag = (c55.getD i9 default).Tag) && true)))) then F6_crossroadslaw08_RmapFilter_l2 c55 (i9 + 1) l9 else .error (false)))
def F6_crossroadslaw08_RmapFilter_l3 (in5 : List TRoute) : (i10 : Nat) → List TRoute → Except Bool Unit
  | i10, [] => .ok ()
  | i10, x10 :: l10 => (let c87 := F11_crossroadslaw08_route x10
       (bif decide (c87.P.A = ((in5.getD i10 default).P).A) && (decide (c87.P.N = ((in5.getD i10 default).P).N) && (decide (c87.Kind = (in5.getD i10 default).Kind) && (decide (c87.Cost = (in5.getD i10 default).Cost) && (decide (c87.Tag = (in5.getD i10 default).Tag) && true)))) then F6_crossroadslaw08_RmapFilter_l3 in5 (i10 + 1) l10 else .error (false)))
def F6_crossroadslaw08_RmapFilter_l4  : (in5 : List TRoute) → List TRoute → Except Bool (List TRoute)
  | in5, [] => .ok in5
  | in5, x6 :: l6 => (let c37 := F11_crossroadslaw08_route x6
       (let c38 := F10_crossroadsref08_MayRoute c37
        (bif c38 then
          F6_crossroadslaw08_RmapFilter_l4 (in5 ++ ([c37] : List TRoute)) l6
        else
          (let c40 := F12_crossroadslaw08_alive
           .error (c40)))))
/-- crossroads/crossroadslaw08.RmapFilter -/
def F6_crossroadslaw08_RmapFilter (m0 : List TClause) (l1 : List TRoute) : Bool :=
  (let c12 := F7_crossroadslaw08_small m0
   (bif c12 then
     (bif decide (30 < (l1.length : Int)) then
       F12_crossroadslaw08_alive
     else
       (let c21 := F9_crossroadslaw08_rows m0
        (let c22 := F8_crossroadsref08_MayAll c21
         (bif c22 then
           (match F6_crossroadslaw08_RmapFilter_l4 ([] : List TRoute) l1 with
           | .error r => r
           | .ok in5 => 
             (let c51 := F25_rmap_Filter m0 l1
              ((let c55 := F26_crossroadsref08_Filter c21 in5
                ((decide ((c51.length : Int) = (c55.length : Int))) && (match F6_crossroadslaw08_RmapFilter_l2 c55 0 c51 with
                | .error r => r
                | .ok _ => 
                  (match F6_crossroadslaw08_RmapFilter_l3 in5 0 l1 with
                  | .error r => r
                  | .ok _ => F12_crossroadslaw08_alive)))))))
         else
           F12_crossroadslaw08_alive))))
   else
     F12_crossroadslaw08_alive))

end Go.Proofs.Ytagiapphmkdnmaa.Abs

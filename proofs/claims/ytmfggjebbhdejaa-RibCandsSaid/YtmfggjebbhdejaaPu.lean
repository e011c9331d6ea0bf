/- The functions of the program as Lean functions (printed by this work's own program gen.py). -/
import Derived.Test.YtmfggjebbhdejaaP0
set_option linter.unusedVariables false
set_option maxRecDepth 100000
namespace Go.Proofs.Ytmfggjebbhdejaa.Abs
open Go

structure TPrefix where
  A : Int
  N : Int
  deriving DecidableEq, Inhabited
structure THop where
  Iface : Int
  Gate : Int
  deriving DecidableEq, Inhabited
structure TCand where
  P : TPrefix
  Proto : Int
  Inst : Int
  Dist : Int
  Metric : Int
  Tag : Int
  Leaked : Bool
  From : Int
  Hops : List THop
  deriving DecidableEq, Inhabited
structure TTable where
  L : List TCand
  deriving DecidableEq, Inhabited
structure TS where
  e0 : Int
  e1 : Int
  e2 : Int
  e3 : Int
  e4 : Int
  e5 : Int
  deriving DecidableEq, Inhabited

def F6_crossroadslaw25_short_l1  : List TCand → Except Bool Unit
  | [] => .ok ()
  | x3 :: l3 => (bif decide (20 < (x3.Hops.length : Int)) then .error (false) else F6_crossroadslaw25_short_l1 l3)
/-- crossroads/crossroadslaw25.short -/
def F6_crossroadslaw25_short (l0 : List TCand) : Bool :=
  (match F6_crossroadslaw25_short_l1 l0 with
  | .error r => r
  | .ok _ => true)

def F48_cmp_Or_l1  : List Int → Except Int Unit
  | [] => .ok ()
  | x8 :: l8 => (bif decide (x8 = 0) then F48_cmp_Or_l1 l8 else .error (x8))
/-- cmp.Or[int] -/
def F48_cmp_Or (vals0 : List Int) : Int :=
  (match F48_cmp_Or_l1 vals0 with
  | .error r => r
  | .ok _ => 0)

/-- cmp.isNaN[int] -/
def F57_cmp_isNaN (x0 : Int) : Bool :=
  !decide (x0 = x0)

/-- cmp.Compare[int] -/
def F50_cmp_Compare (x0 : Int) (y1 : Int) : Int :=
  (let c8 := F57_cmp_isNaN x0
   (let c10 := F57_cmp_isNaN y1
    (bif c8 then
      (bif c10 then 0 else (-1))
    else
      (bif c10 then 1 else (bif decide (x0 < y1) then (-1) else (bif decide (y1 < x0) then 1 else 0))))))

/-- (crossroads/rib.Cand).leaked -/
def F51_rib_Cand_leaked (c0 : TCand) : Int :=
  (bif c0.Leaked then 1 else 0)

/-- crossroads/rib.byRank -/
def F34_rib_byRank (a0 : TCand) (b1 : TCand) : Int :=
  (let c9 := F50_cmp_Compare a0.Dist b1.Dist
   (let c11 := F51_rib_Cand_leaked a0
    (let c13 := F51_rib_Cand_leaked b1
     (let c19 := F50_cmp_Compare a0.Proto b1.Proto
      (let c24 := F50_cmp_Compare a0.Metric b1.Metric
       (let c29 := F50_cmp_Compare a0.Inst b1.Inst
        (let c34 := F50_cmp_Compare a0.From b1.From
         F48_cmp_Or ([c9, IntKind.i64.wrap (c11 - c13), c19, c24, c29, c34] : List Int))))))))

/-- crossroads/rib.Better -/
def F16_rib_Better (a0 : TCand) (b1 : TCand) : Bool :=
  (let c7 := F34_rib_byRank a0 b1
   decide (c7 < 0))

/-- crossroads/addr.isLong -/
def F46_addr_isLong (n0 : Int) : Bool :=
  ((decide (0 ≤ n0)) && (decide (n0 ≤ 32)))

/-- crossroads/addr.Mask -/
def F47_addr_Mask (n0 : Int) : Int :=
  IntKind.u32.wrap (shl_ .u64 4294967295 (IntKind.i64.wrap (32 - (min_ (max_ n0 0) 32))))

/-- crossroads/addr.May -/
def F27_addr_May (p0 : TPrefix) : Bool :=
  (let c5 := F46_addr_isLong p0.N
   (c5 && (let c11 := F47_addr_Mask p0.N
    decide (bit_andNot .u32 p0.A c11 = 0))))

/-- crossroads/addr.Has -/
def F37_addr_Has (p0 : TPrefix) (a1 : Int) : Bool :=
  (let c6 := F27_addr_May p0
   (c6 && (let c11 := F47_addr_Mask p0.N
    decide (bit_and .u32 a1 c11 = p0.A))))

def F38_rib_Resolve_l1 (t0 : TTable) (h1 : THop) : (at6 : Int) → (i16 : Nat) → List TCand → Option Int
  | at6, i16, [] => some at6
  | at6, i16, x16 :: l16 => (bif decide (x16.Proto = 0) then
        (bif x16.Leaked then
          F38_rib_Resolve_l1 t0 h1 at6 (i16 + 1) l16
        else
          (let c34 := F37_addr_Has x16.P h1.Gate
           (bif c34 then
             (bif decide (at6 < 0) then
               F38_rib_Resolve_l1 t0 h1 (i16 : Int) (i16 + 1) l16
             else
               (match getI t0.L at6 with
               | none => none
               | some x917 => (bif decide (x917.P.N < x16.P.N) then F38_rib_Resolve_l1 t0 h1 (i16 : Int) (i16 + 1) l16 else F38_rib_Resolve_l1 t0 h1 at6 (i16 + 1) l16)))
           else
             F38_rib_Resolve_l1 t0 h1 at6 (i16 + 1) l16)))
      else
        F38_rib_Resolve_l1 t0 h1 at6 (i16 + 1) l16)
theorem F38_rib_Resolve_l1_e : True := by
  have := @F38_rib_Resolve_l1.eq_1
  trivial
/-- crossroads/rib.Resolve -/
def F38_rib_Resolve (t0 : TTable) (h1 : THop) : Option (THop × Bool) :=
  (bif decide (h1.Gate = 0) then
    some (h1, true)
  else
    (match F38_rib_Resolve_l1 t0 h1 (-1) 0 t0.L with
    | none => none
    | some at6 => 
      (bif decide (at6 < 0) then
        some ((⟨0, 0⟩ : THop), false)
      else
        (match getI t0.L at6 with
        | none => none
        | some x910 => 
          (match getI x910.Hops 0 with
          | none => none
          | some x911 => some ((⟨x911.Iface, h1.Gate⟩ : THop), true))))))

def F19_rib_Lives_l1 (t0 : TTable) : (hops6 : List THop) → List THop → Option (List THop)
  | hops6, [] => some hops6
  | hops6, x22 :: l22 => ((match F38_rib_Resolve t0 x22 with
       | none => none
       | some (c29a, c29b) => 
         (bif c29b then
           (bif decide (hops6.length < 1099511627776) then
             F19_rib_Lives_l1 t0 (hops6 ++ ([c29a] : List THop)) l22
           else none)
         else
           F19_rib_Lives_l1 t0 hops6 l22)))
theorem F19_rib_Lives_l1_e : True := by
  have := @F19_rib_Lives_l1.eq_1
  trivial
/-- crossroads/rib.Lives -/
def F19_rib_Lives (t0 : TTable) (c1 : TCand) : Option (TCand × Bool) :=
  (bif decide (c1.Proto = 1) then
    (bif c1.Leaked then
      some (c1, true)
    else
      (match F19_rib_Lives_l1 t0 ([] : List THop) c1.Hops with
      | none => none
      | some hops6 => 
        (bif decide ((hops6.length : Int) = 0) then
          some ((⟨(⟨0, 0⟩ : TPrefix), 0, 0, 0, 0, 0, false, 0, ([] : List THop)⟩ : TCand), false)
        else
          some ((⟨c1.P, c1.Proto, c1.Inst, c1.Dist, c1.Metric, c1.Tag, c1.Leaked, c1.From, hops6⟩ : TCand), true))))
  else
    some (c1, true))

/-- The candidates of a row that live. -/
def livesL (t : TTable) : List TCand → Option (List TCand)
  | [] => some []
  | c :: r => (match F19_rib_Lives t c with
      | none => none
      | some (x, ok) => (match livesL t r with
        | none => none
        | some l => some (bif ok then x :: l else l)))
def F36_rib_All_l1  : (row1 : List TCand) → List TCand → Option (List TCand)
  | row1, [] => some row1
  | row1, x52 :: l52 => (bif decide (IntKind.i64.wrap ((row1.length : Int) - 1) < 0) then
        (bif decide (row1.length < 1099511627776) then
          F36_rib_All_l1 (row1 ++ ([x52] : List TCand)) l52
        else none)
      else
        (match getI row1 (IntKind.i64.wrap ((row1.length : Int) - 1)) with
        | none => none
        | some x916 => 
          (bif decide (x916.P.A = x52.P.A) && (decide (x916.P.N = x52.P.N) && true) then
            (let c35 := F16_rib_Better x52 x916
             (bif c35 then
               F36_rib_All_l1 (row1.set (IntKind.i64.wrap ((row1.length : Int) - 1)).toNat x52) l52
             else
               F36_rib_All_l1 row1 l52))
          else
            (bif decide (row1.length < 1099511627776) then
              F36_rib_All_l1 (row1 ++ ([x52] : List TCand)) l52
            else none))))
theorem F36_rib_All_l1_e : True := by
  have := @F36_rib_All_l1.eq_1
  trivial
/-- crossroads/rib.All: a range over a function. -/
def allO (t : TTable) : Option (List TCand) := match livesL t t.L with
  | none => none
  | some l => F36_rib_All_l1 [] l

def F18_rib_Find_l1 (a1 : Int) : (found7 : Bool) → (best6 : TCand) → List TCand → Option (Bool × TCand)
  | found7, best6, [] => some (found7, best6)
  | found7, best6, x13 :: l13 => (let c20 := F37_addr_Has x13.P a1
       (bif c20 then
         (bif found7 then
           (bif decide (best6.P.N < x13.P.N) then F18_rib_Find_l1 a1 true x13 l13 else F18_rib_Find_l1 a1 true best6 l13)
         else
           F18_rib_Find_l1 a1 true x13 l13)
       else
         F18_rib_Find_l1 a1 found7 best6 l13))
theorem F18_rib_Find_l1_e : True := by
  have := @F18_rib_Find_l1.eq_1
  trivial
/-- crossroads/rib.Find -/
def F18_rib_Find (t0 : TTable) (a1 : Int) : Option (TCand × Bool) :=
  ((match allO t0 with
   | none => none
   | some c11 => 
     (match F18_rib_Find_l1 a1 false (⟨(⟨0, 0⟩ : TPrefix), 0, 0, 0, 0, 0, false, 0, ([] : List THop)⟩ : TCand) c11 with
     | none => none
     | some (found7, best6) => some (best6, found7))))

/-- crossroads/rib.isIn -/
def F26_rib_isIn (n0 : Int) (low1 : Int) (high2 : Int) : Bool :=
  ((decide (low1 ≤ n0)) && (decide (n0 ≤ high2)))

/-- crossroads/rib.May -/
def F8_rib_May (c0 : TCand) : Bool :=
  (let c7 := F26_rib_isIn c0.Dist 1 255
   (bif decide (c0.Proto = 0) then
     (let c16 := F26_rib_isIn c0.From 0 31
      (bif c16 then
        (bif c0.Leaked then
          (let c28 := F27_addr_May c0.P
           (c28 && (let c32 := F26_rib_isIn c0.Proto 0 5
            (c32 && (let c37 := F26_rib_isIn c0.Inst 0 99
             (c37 && ((decide (0 ≤ c0.Metric)) && ((decide (c0.Dist = 0)) && (F26_rib_isIn (c0.Hops.length : Int) 1 8)))))))))
        else
          (let c28 := F27_addr_May c0.P
           (c28 && (let c32 := F26_rib_isIn c0.Proto 0 5
            (c32 && (let c37 := F26_rib_isIn c0.Inst 0 99
             (c37 && ((decide (0 ≤ c0.Metric)) && ((decide (c0.Dist = 0)) && ((decide (c0.From = 0)) && (F26_rib_isIn (c0.Hops.length : Int) 1 8)))))))))))
      else
        (let c28 := F27_addr_May c0.P
         (c28 && (let c32 := F26_rib_isIn c0.Proto 0 5
          (c32 && (let c37 := F26_rib_isIn c0.Inst 0 99
           false)))))))
   else
     (let c16 := F26_rib_isIn c0.From 0 31
      (bif c16 then
        (bif c0.Leaked then
          (let c28 := F27_addr_May c0.P
           (c28 && (let c32 := F26_rib_isIn c0.Proto 0 5
            (c32 && (let c37 := F26_rib_isIn c0.Inst 0 99
             (c37 && ((decide (0 ≤ c0.Metric)) && (c7 && (F26_rib_isIn (c0.Hops.length : Int) 1 8)))))))))
        else
          (let c28 := F27_addr_May c0.P
           (c28 && (let c32 := F26_rib_isIn c0.Proto 0 5
            (c32 && (let c37 := F26_rib_isIn c0.Inst 0 99
             (c37 && ((decide (0 ≤ c0.Metric)) && (c7 && ((decide (c0.From = 0)) && (F26_rib_isIn (c0.Hops.length : Int) 1 8)))))))))))
      else
        (let c28 := F27_addr_May c0.P
         (c28 && (let c32 := F26_rib_isIn c0.Proto 0 5
          (c32 && (let c37 := F26_rib_isIn c0.Inst 0 99
           false)))))))))

/-- cmp.isNaN[uint32] -/
def F56_cmp_isNaN (x0 : Int) : Bool :=
  !decide (x0 = x0)

/-- cmp.Compare[uint32] -/
def F49_cmp_Compare (x0 : Int) (y1 : Int) : Int :=
  (let c8 := F56_cmp_isNaN x0
   (let c10 := F56_cmp_isNaN y1
    (bif c8 then
      (bif c10 then 0 else (-1))
    else
      (bif c10 then 1 else (bif decide (x0 < y1) then (-1) else (bif decide (y1 < x0) then 1 else 0))))))

/-- crossroads/rib.byKey -/
def F31_rib_byKey (a0 : TCand) (b1 : TCand) : Int :=
  (let c11 := F49_cmp_Compare a0.P.A b1.P.A
   (let c18 := F50_cmp_Compare a0.P.N b1.P.N
    (let c20 := F51_rib_Cand_leaked a0
     (let c22 := F51_rib_Cand_leaked b1
      (let c28 := F50_cmp_Compare a0.From b1.From
       (let c33 := F50_cmp_Compare a0.Proto b1.Proto
        (let c38 := F50_cmp_Compare a0.Inst b1.Inst
         F48_cmp_Or ([c11, c18, IntKind.i64.wrap (c20 - c22), c28, c33, c38] : List Int))))))))

def F43_slices_BinarySearchFunc_l1 (x0 : List TCand) (target1 : TCand) (hcmp2 : TCand → TCand → Int) (fuel0 : Nat) (i9 : Int) (j10 : Int) : Option (Int × Int) :=
  match fuel0 with
  | 0 => none
  | fuel0 + 1 => (bif decide (i9 < j10) then
        (match getI x0 (IntKind.i64.wrap (Int.fdiv (IntKind.u64.wrap (IntKind.i64.wrap (i9 + j10))) (2 ^ 1))) with
        | none => none
        | some x917 => 
          (let c30 := hcmp2 x917 target1
           (bif decide (c30 < 0) then
             F43_slices_BinarySearchFunc_l1 x0 target1 hcmp2 fuel0 (IntKind.i64.wrap ((IntKind.i64.wrap (Int.fdiv (IntKind.u64.wrap (IntKind.i64.wrap (i9 + j10))) (2 ^ 1))) + 1)) j10
           else
             F43_slices_BinarySearchFunc_l1 x0 target1 hcmp2 fuel0 i9 (IntKind.i64.wrap (Int.fdiv (IntKind.u64.wrap (IntKind.i64.wrap (i9 + j10))) (2 ^ 1))))))
      else
        some (i9, j10))
/-- slices.BinarySearchFunc[[]crossroads/rib.Cand,crossroads/rib.Cand,crossroads/rib.Cand] -/
def F43_slices_BinarySearchFunc (x0 : List TCand) (target1 : TCand) (hcmp2 : TCand → TCand → Int) : Option (Int × Bool) :=
  (match F43_slices_BinarySearchFunc_l1 x0 target1 hcmp2 100 0 (x0.length : Int) with
  | none => none
  | some (i9, j10) => 
    (bif decide (i9 < (x0.length : Int)) then
      (match getI x0 i9 with
      | none => none
      | some x915 => 
        (let c46 := hcmp2 x915 target1
         some (i9, decide (c46 = 0))))
    else
      some (i9, false)))

/-- crossroads/rib.Put -/
def F23_rib_Put (t0 : TTable) (c1 : TCand) : Option (TTable × Int) :=
  (let c10 := F8_rib_May c1
   (bif c10 then
     ((match F43_slices_BinarySearchFunc t0.L c1 (fun y0 y1 => F31_rib_byKey y0 y1) with
      | none => none
      | some (c17a, c17b) => 
        (bif decide (t0.L.length < 1099511627776) then
          (bif c17b then
            (match getI t0.L c17a with
            | none => none
            | some x907 => some ((⟨(t0.L.set c17a.toNat c1)⟩ : TTable), 0))
          else
            (bif decide (500 ≤ (t0.L.length : Int)) then
              some (t0, 8)
            else
              (bif decide ((0 : Int) ≤ c17a) then
                (bif decide (c17a ≤ (t0.L.length : Int)) then
                  some ((⟨(ins_ t0.L c17a ([c1] : List TCand))⟩ : TTable), 0)
                else none)
              else none)))
        else none)))
   else
     some (t0, 1)))

/-- crossroads/crossroadslaw25.alive -/
def F7_crossroadslaw25_alive : Option Bool :=
  ((match F23_rib_Put (⟨([] : List TCand)⟩ : TTable) (⟨(⟨0, 0⟩ : TPrefix), 2, 0, 110, 0, 0, false, 0, ([(⟨1, 0⟩ : THop)] : List THop)⟩ : TCand) with
   | none => none
   | some (c17a, c17b) => 
     ((match F23_rib_Put c17a (⟨(⟨0, 0⟩ : TPrefix), 1, 0, 1, 0, 0, false, 0, ([(⟨2, 0⟩ : THop)] : List THop)⟩ : TCand) with
      | none => none
      | some (c23a, c23b) => 
        ((match F18_rib_Find c23a 5 with
         | none => none
         | some (c28a, c28b) => 
           (bif decide (c17b = 0) then
             (bif decide (c23b = 0) then
               (bif c28b then
                 (bif decide (c28a.Dist = 1) then
                   (bif decide ((c23a.L.length : Int) = 2) then
                     (let c54 := F16_rib_Better (⟨(⟨0, 0⟩ : TPrefix), 1, 0, 1, 0, 0, false, 0, ([(⟨2, 0⟩ : THop)] : List THop)⟩ : TCand) (⟨(⟨0, 0⟩ : TPrefix), 2, 0, 110, 0, 0, false, 0, ([(⟨1, 0⟩ : THop)] : List THop)⟩ : TCand)
                      some c54)
                   else
                     some false)
                 else
                   some false)
               else
                 some false)
             else
               some false)
           else
             some false)))))))

/-- crossroads/crossroadsref03.Bit -/
def F39_crossroadsref03_Bit (a0 : Int) (i1 : Int) : Int :=
  (bif decide (i1 < 0) then
    0
  else
    (bif decide (31 < i1) then
      0
    else
      IntKind.i64.wrap (bit_and .u32 (shr_ .u32 a0 (IntKind.u64.wrap (IntKind.i64.wrap (31 - i1)))) 1)))

def F28_crossroadsref03_May_l1 (p0 : TPrefix) (fuel3 : Nat) (i3 : Int) : Except Bool Unit :=
  bif decide (i3 < 32) then
    match fuel3 with
    | 0 => .ok ()
    | fuel3 + 1 => (let c21 := F39_crossroadsref03_Bit p0.A i3
         (bif decide (c21 = 1) then .error (false) else F28_crossroadsref03_May_l1 p0 fuel3 (IntKind.i64.wrap (i3 + 1))))
  else .ok ()
/-- crossroads/crossroadsref03.May -/
def F28_crossroadsref03_May (p0 : TPrefix) : Bool :=
  (bif decide (p0.N < 0) then
    false
  else
    (bif decide (32 < p0.N) then
      false
    else
      (match F28_crossroadsref03_May_l1 p0 (fuelUp p0.N 32) p0.N with
      | .error r => r
      | .ok _ => true)))

/-- crossroads/crossroadsref25.in -/
def F29_crossroadsref25_in (n0 : Int) (low1 : Int) (high2 : Int) : Bool :=
  ((decide (low1 ≤ n0)) && (decide (n0 ≤ high2)))

/-- crossroads/crossroadsref25.May -/
def F9_crossroadsref25_May (c0 : TCand) : Bool :=
  (let c5 := F28_crossroadsref03_May c0.P
   (c5 && (let c10 := F29_crossroadsref25_in c0.Proto 0 5
    (c10 && (let c16 := F29_crossroadsref25_in c0.Inst 0 99
     (c16 && (bif decide (c0.Metric < 0) then
       false
     else
       (let c27 := F29_crossroadsref25_in c0.From 0 31
        (c27 && (let c34 := F29_crossroadsref25_in (c0.Hops.length : Int) 1 8
         (c34 && (bif c0.Leaked then
           (bif decide (c0.Proto = 0) then decide (c0.Dist = 0) else F29_crossroadsref25_in c0.Dist 1 255)
         else
           ((decide (c0.From = 0)) && (bif decide (c0.Proto = 0) then decide (c0.Dist = 0) else F29_crossroadsref25_in c0.Dist 1 255))))))))))))))

/-- crossroads/crossroadslaw25.hop -/
def F30_crossroadslaw25_hop (h0 : THop) : THop :=
  h0

def F10_crossroadslaw25_plain_l1  : (h3 : List THop) → List THop → Option (List THop)
  | h3, [] => some h3
  | h3, x4 :: l4 => (let c19 := F30_crossroadslaw25_hop x4
       (bif decide (h3.length < 1099511627776) then
         F10_crossroadslaw25_plain_l1 (h3 ++ ([c19] : List THop)) l4
       else none))
theorem F10_crossroadslaw25_plain_l1_e : True := by
  have := @F10_crossroadslaw25_plain_l1.eq_1
  trivial
/-- crossroads/crossroadslaw25.plain -/
def F10_crossroadslaw25_plain (c0 : TCand) : Option TCand :=
  (match F10_crossroadslaw25_plain_l1 ([] : List THop) c0.Hops with
  | none => none
  | some h3 => some (⟨c0.P, c0.Proto, c0.Inst, c0.Dist, c0.Metric, c0.Tag, c0.Leaked, c0.From, h3⟩ : TCand))

/-- crossroads/rib.Less -/
def F14_rib_Less (a0 : TCand) (b1 : TCand) : Bool :=
  (let c7 := F31_rib_byKey a0 b1
   decide (c7 < 0))

def F11_rib_MayAll_l1 (t0 : TTable) : (i8 : Nat) → List TCand → Except Bool Unit
  | i8, [] => .ok ()
  | i8, x8 :: l8 => (let c14 := F8_rib_May x8
       (bif c14 then
         (bif decide (0 < (i8 : Int)) then
           (let c27 := F14_rib_Less (⟨((t0.L.getD (i8 - 1) default).P), (t0.L.getD (i8 - 1) default).Proto, (t0.L.getD (i8 - 1) default).Inst, (t0.L.getD (i8 - 1) default).Dist, (t0.L.getD (i8 - 1) default).Metric, (t0.L.getD (i8 - 1) default).Tag, (t0.L.getD (i8 - 1) default).Leaked, (t0.L.getD (i8 - 1) default).From, (t0.L.getD (i8 - 1) default).Hops⟩ : TCand) x8
            (bif c27 then F11_rib_MayAll_l1 t0 (i8 + 1) l8 else .error (false)))
         else
           F11_rib_MayAll_l1 t0 (i8 + 1) l8)
       else
         .error (false)))
/-- crossroads/rib.MayAll -/
def F11_rib_MayAll (t0 : TTable) : Bool :=
  (match F11_rib_MayAll_l1 t0 0 t0.L with
  | .error r => r
  | .ok _ => decide ((t0.L.length : Int) ≤ 500))

/-- crossroads/crossroadsref25.first -/
def F32_crossroadsref25_first (a0 : TS) (b1 : TS) : Int :=
  (bif decide (a0.e0 < b1.e0) then
    (-1)
  else
    (bif decide (b1.e0 < a0.e0) then
      1
    else
      (bif decide (a0.e1 < b1.e1) then
        (-1)
      else
        (bif decide (b1.e1 < a0.e1) then
          1
        else
          (bif decide (a0.e2 < b1.e2) then
            (-1)
          else
            (bif decide (b1.e2 < a0.e2) then
              1
            else
              (bif decide (a0.e3 < b1.e3) then
                (-1)
              else
                (bif decide (b1.e3 < a0.e3) then
                  1
                else
                  (bif decide (a0.e4 < b1.e4) then
                    (-1)
                  else
                    (bif decide (b1.e4 < a0.e4) then
                      1
                    else
                      (bif decide (a0.e5 < b1.e5) then (-1) else (bif decide (b1.e5 < a0.e5) then 1 else 0))))))))))))

/-- crossroads/crossroadsref25.num -/
def F52_crossroadsref25_num (is0 : Bool) : Int :=
  (bif is0 then 1 else 0)

/-- crossroads/crossroadsref25.key -/
def F33_crossroadsref25_key (c0 : TCand) : TS :=
  (let c12 := F52_crossroadsref25_num c0.Leaked
   (⟨IntKind.i64.wrap c0.P.A, c0.P.N, c12, c0.From, c0.Proto, c0.Inst⟩ : TS))

/-- crossroads/crossroadsref25.Less -/
def F15_crossroadsref25_Less (a0 : TCand) (b1 : TCand) : Bool :=
  (let c6 := F33_crossroadsref25_key a0
   (let c8 := F33_crossroadsref25_key b1
    (let c9 := F32_crossroadsref25_first c6 c8
     decide (c9 < 0))))

def F12_crossroadsref25_MayAll_l1 (t0 : TTable) : (i3 : Nat) → List TCand → Except Bool Unit
  | i3, [] => .ok ()
  | i3, x3 :: l3 => (let c20 := F9_crossroadsref25_May x3
       (bif c20 then
         (bif decide (0 < (i3 : Int)) then
           (let c37 := F15_crossroadsref25_Less (⟨((t0.L.getD (i3 - 1) default).P), (t0.L.getD (i3 - 1) default).Proto, (t0.L.getD (i3 - 1) default).Inst, (t0.L.getD (i3 - 1) default).Dist, (t0.L.getD (i3 - 1) default).Metric, (t0.L.getD (i3 - 1) default).Tag, (t0.L.getD (i3 - 1) default).Leaked, (t0.L.getD (i3 - 1) default).From, (t0.L.getD (i3 - 1) default).Hops⟩ : TCand) x3
            (bif c37 then F12_crossroadsref25_MayAll_l1 t0 (i3 + 1) l3 else .error (false)))
         else
           F12_crossroadsref25_MayAll_l1 t0 (i3 + 1) l3)
       else
         .error (false)))
/-- crossroads/crossroadsref25.MayAll -/
def F12_crossroadsref25_MayAll (t0 : TTable) : Bool :=
  (bif decide (500 < (t0.L.length : Int)) then
    false
  else
    (match F12_crossroadsref25_MayAll_l1 t0 0 t0.L with
    | .error r => r
    | .ok _ => true))

def F25_crossroadslaw25_rows_l1  : (out3 : List TCand) → List TCand → Option (List TCand)
  | out3, [] => some out3
  | out3, x4 :: l4 => ((match F10_crossroadslaw25_plain x4 with
       | none => none
       | some c17 => 
         (bif decide (out3.length < 1099511627776) then
           F25_crossroadslaw25_rows_l1 (out3 ++ ([c17] : List TCand)) l4
         else none)))
theorem F25_crossroadslaw25_rows_l1_e : True := by
  have := @F25_crossroadslaw25_rows_l1.eq_1
  trivial
/-- crossroads/crossroadslaw25.rows -/
def F25_crossroadslaw25_rows (l0 : List TCand) : Option (List TCand) :=
  (match F25_crossroadslaw25_rows_l1 ([] : List TCand) l0 with
  | none => none
  | some out3 => some out3)

/-- crossroads/crossroadslaw25.table -/
def F13_crossroadslaw25_table (t0 : TTable) : Option TTable :=
  ((match F25_crossroadslaw25_rows t0.L with
   | none => none
   | some c5 => some (⟨c5⟩ : TTable)))

/-- crossroads/crossroadsref25.rank -/
def F35_crossroadsref25_rank (c0 : TCand) : TS :=
  (let c7 := F52_crossroadsref25_num c0.Leaked
   (⟨c0.Dist, c7, c0.Proto, c0.Metric, c0.Inst, c0.From⟩ : TS))

/-- crossroads/crossroadsref25.Better -/
def F17_crossroadsref25_Better (a0 : TCand) (b1 : TCand) : Bool :=
  (let c6 := F35_crossroadsref25_rank a0
   (let c8 := F35_crossroadsref25_rank b1
    (let c9 := F32_crossroadsref25_first c6 c8
     decide (c9 < 0))))

/-- crossroads/crossroadslaw25.RibCands -/
def F3_crossroadslaw25_RibCands (l0 : List TCand) (a1 : TCand) (b2 : TCand) : Option Bool :=
  (bif decide (80 < (l0.length : Int)) then
    F7_crossroadslaw25_alive
  else
    (let c13 := F6_crossroadslaw25_short l0
     (bif c13 then
       (bif decide (20 < (a1.Hops.length : Int)) then
         F7_crossroadslaw25_alive
       else
         (bif decide (20 < (b2.Hops.length : Int)) then
           F7_crossroadslaw25_alive
         else
           ((match F7_crossroadslaw25_alive with
            | none => none
            | some c31 => 
              (bif c31 then
                (let c34 := F8_rib_May a1
                 ((match F10_crossroadslaw25_plain a1 with
                  | none => none
                  | some c36 => 
                    (let c37 := F9_crossroadsref25_May c36
                     (bif (c34 == c37) then
                       (let c42 := F11_rib_MayAll (⟨l0⟩ : TTable)
                        ((match F13_crossroadslaw25_table (⟨l0⟩ : TTable) with
                         | none => none
                         | some c44 => 
                           (let c45 := F12_crossroadsref25_MayAll c44
                            (bif (c42 == c45) then
                              (let c51 := F14_rib_Less a1 b2
                               (((match F10_crossroadslaw25_plain b2 with
                                 | none => none
                                 | some c55 => 
                                   (let c56 := F15_crossroadsref25_Less c36 c55
                                    (bif (c51 == c56) then
                                      (let c62 := F16_rib_Better a1 b2
                                       (((let c67 := F17_crossroadsref25_Better c36 c55
                                          some (c62 == c67)))))
                                    else
                                      some false))))))
                            else
                              some false)))))
                     else
                       some false)))))
              else
                some false)))))
     else
       F7_crossroadslaw25_alive)))

def F20_crossroadsref03_Has_l1 (p0 : TPrefix) (a1 : Int) (fuel5 : Nat) (i5 : Int) : Except Bool Unit :=
  bif decide (i5 < p0.N) then
    match fuel5 with
    | 0 => .ok ()
    | fuel5 + 1 => (let c18 := F39_crossroadsref03_Bit p0.A i5
         (let c21 := F39_crossroadsref03_Bit a1 i5
          (bif decide (c18 = c21) then F20_crossroadsref03_Has_l1 p0 a1 fuel5 (IntKind.i64.wrap (i5 + 1)) else .error (false))))
  else .ok ()
/-- crossroads/crossroadsref03.Has -/
def F20_crossroadsref03_Has (p0 : TPrefix) (a1 : Int) : Bool :=
  (let c7 := F28_crossroadsref03_May p0
   (c7 && (match F20_crossroadsref03_Has_l1 p0 a1 (fuelUp 0 p0.N) 0 with
   | .error r => r
   | .ok _ => true)))

def F40_slices_IndexFunc_l1 (hf1 : TCand → Bool) : (i8 : Nat) → List TCand → Except Int Unit
  | i8, [] => .ok ()
  | i8, x8 :: l8 => (let c16 := hf1 x8
       (bif c16 then .error ((i8 : Int)) else F40_slices_IndexFunc_l1 hf1 (i8 + 1) l8))
/-- slices.IndexFunc[[]crossroads/rib.Cand,crossroads/rib.Cand] -/
def F40_slices_IndexFunc (s0 : List TCand) (hf1 : TCand → Bool) : Int :=
  (match F40_slices_IndexFunc_l1 hf1 0 s0 with
  | .error r => r
  | .ok _ => (-1))

/-- crossroads/rib.Best$1 -/
def F41_rib_Best_1 (c0 : TCand) (a1 : TPrefix) : Bool :=
  (decide (c0.P.A = a1.A) && (decide (c0.P.N = a1.N) && true))

/-- crossroads/rib.Best -/
def F21_rib_Best (t0 : TTable) (p1 : TPrefix) : Option (TCand × Bool) :=
  ((match allO t0 with
   | none => none
   | some c9 => 
     (let c12 := F40_slices_IndexFunc c9 (fun y0 => F41_rib_Best_1 y0 p1)
      (bif decide (c12 < 0) then
        some ((⟨(⟨0, 0⟩ : TPrefix), 0, 0, 0, 0, 0, false, 0, ([] : List THop)⟩ : TCand), false)
      else
        (match getI c9 c12 with
        | none => none
        | some x901 => some (x901, true))))))

def F42_crossroadsref25_Hops_l1 (b1 : List THop) : (i5 : Nat) → List THop → Except Bool Unit
  | i5, [] => .ok ()
  | i5, x5 :: l5 => (bif decide (x5.Iface = (b1.getD i5 default).Iface) && (decide (x5.Gate = (b1.getD i5 default).Gate) && true) then F42_crossroadsref25_Hops_l1 b1 (i5 + 1) l5 else .error (false))
/-- crossroads/crossroadsref25.Hops -/
def F42_crossroadsref25_Hops (a0 : List THop) (b1 : List THop) : Bool :=
  ((decide ((a0.length : Int) = (b1.length : Int))) && (match F42_crossroadsref25_Hops_l1 b1 0 a0 with
  | .error r => r
  | .ok _ => true))

/-- crossroads/crossroadsref25.Same -/
def F22_crossroadsref25_Same (a0 : TCand) (b1 : TCand) : Bool :=
  (let c6 := F33_crossroadsref25_key a0
   (let c8 := F33_crossroadsref25_key b1
    ((decide (c6.e0 = c8.e0) && (decide (c6.e1 = c8.e1) && (decide (c6.e2 = c8.e2) && (decide (c6.e3 = c8.e3) && (decide (c6.e4 = c8.e4) && (decide (c6.e5 = c8.e5) && true)))))) && ((decide (a0.Dist = b1.Dist)) && ((decide (a0.Metric = b1.Metric)) && ((decide (a0.Tag = b1.Tag)) && (F42_crossroadsref25_Hops a0.Hops b1.Hops)))))))

def F4_crossroadslaw25_RibBest_l1 (t0 : TTable) (a1 : Int) (c32a : TCand) : (ok6 : Bool) → List TCand → Option (Except Bool Bool)
  | ok6, [] => some (.ok ok6)
  | ok6, x7 :: l7 => ((match F19_rib_Lives t0 x7 with
       | none => none
       | some (c49a, c49b) => 
         (bif c49b then
           (let c58 := F20_crossroadsref03_Has c49a.P a1
            (bif c58 then
              (bif ok6 then
                (bif decide (c32a.P.N < c49a.P.N) then
                  some (.error (false))
                else
                  (bif (decide (c49a.P.A = c32a.P.A) && (decide (c49a.P.N = c32a.P.N) && true)) then
                    (let c81 := F16_rib_Better c49a c32a
                     (bif c81 then some (.error (false)) else F4_crossroadslaw25_RibBest_l1 t0 a1 c32a true l7))
                  else
                    F4_crossroadslaw25_RibBest_l1 t0 a1 c32a true l7))
              else
                some (.error (false)))
            else
              F4_crossroadslaw25_RibBest_l1 t0 a1 c32a ok6 l7))
         else
           F4_crossroadslaw25_RibBest_l1 t0 a1 c32a ok6 l7)))
theorem F4_crossroadslaw25_RibBest_l1_e : True := by
  have := @F4_crossroadslaw25_RibBest_l1.eq_1
  trivial
/-- crossroads/crossroadslaw25.RibBest -/
def F4_crossroadslaw25_RibBest (t0 : TTable) (a1 : Int) : Option Bool :=
  (bif decide (80 < (t0.L.length : Int)) then
    F7_crossroadslaw25_alive
  else
    (let c19 := F6_crossroadslaw25_short t0.L
     (bif c19 then
       ((match F13_crossroadslaw25_table t0 with
        | none => none
        | some c24 => 
          (let c25 := F12_crossroadsref25_MayAll c24
           (bif c25 then
             ((match F18_rib_Find t0 a1 with
              | none => none
              | some (c32a, c32b) => 
                (match F4_crossroadslaw25_RibBest_l1 t0 a1 c32a c32b t0.L with
                | none => none
                | some (.error r) => some r
                | some (.ok ok6) => 
                  ((match F21_rib_Best t0 c32a.P with
                   | none => none
                   | some (c88a, c88b) => 
                     ((match F7_crossroadslaw25_alive with
                      | none => none
                      | some c91 => 
                        (bif c91 then
                          (bif ok6 then
                            (bif c88b then
                              ((match F10_crossroadslaw25_plain c88a with
                               | none => none
                               | some c99 => 
                                 ((match F10_crossroadslaw25_plain c32a with
                                  | none => none
                                  | some c101 => 
                                    (let c102 := F22_crossroadsref25_Same c99 c101
                                     (bif c102 then
                                       (let c108 := F20_crossroadsref03_Has c32a.P a1
                                        some c108)
                                     else
                                       some false))))))
                            else
                              some false)
                          else
                            some true)
                        else
                          some false))))))))
           else
             F7_crossroadslaw25_alive))))
     else
       F7_crossroadslaw25_alive)))

def F24_crossroadsref25_Rows_l1 (b1 : List TCand) : (i5 : Nat) → List TCand → Except Bool Unit
  | i5, [] => .ok ()
  | i5, x5 :: l5 => (let c25 := F22_crossroadsref25_Same x5 (⟨((b1.getD i5 default).P), (b1.getD i5 default).Proto, (b1.getD i5 default).Inst, (b1.getD i5 default).Dist, (b1.getD i5 default).Metric, (b1.getD i5 default).Tag, (b1.getD i5 default).Leaked, (b1.getD i5 default).From, (b1.getD i5 default).Hops⟩ : TCand)
       (bif c25 then F24_crossroadsref25_Rows_l1 b1 (i5 + 1) l5 else .error (false)))
/-- crossroads/crossroadsref25.Rows -/
def F24_crossroadsref25_Rows (a0 : List TCand) (b1 : List TCand) : Bool :=
  ((decide ((a0.length : Int) = (b1.length : Int))) && (match F24_crossroadsref25_Rows_l1 b1 0 a0 with
  | .error r => r
  | .ok _ => true))

def F5_crossroadslaw25_RibOrder_l1 (k7 : List TCand) (i11 : Nat) (x11 : TCand) (fuel16 : Nat) (i16 : Int) : Option (Except Bool Unit) :=
  bif decide (i16 < (i11 : Int)) then
    match fuel16 with
    | 0 => some (.ok ())
    | fuel16 + 1 => (match getI k7 i16 with
        | none => none
        | some x955 => 
          (bif (decide (x955.P.A = x11.P.A) && (decide (x955.P.N = x11.P.N) && true)) then
            (let c141 := F16_rib_Better x955 x11
             (let c150 := F16_rib_Better x11 x955
              (bif (c141 == c150) then some (.error (false)) else F5_crossroadslaw25_RibOrder_l1 k7 i11 x11 fuel16 (IntKind.i64.wrap (i16 + 1)))))
          else
            F5_crossroadslaw25_RibOrder_l1 k7 i11 x11 fuel16 (IntKind.i64.wrap (i16 + 1))))
  else some (.ok ())
def F5_crossroadslaw25_RibOrder_l2 (k7 : List TCand) : (t5 : TTable) → (u6 : TTable) → (i11 : Nat) → List TCand → Option (Except Bool (TTable × TTable))
  | t5, u6, i11, [] => some (.ok (t5, u6))
  | t5, u6, i11, x11 :: l11 => ((match F23_rib_Put t5 x11 with
       | none => none
       | some (c98a, c98b) => 
         (match getI k7 (IntKind.i64.wrap ((IntKind.i64.wrap ((k7.length : Int) - 1)) - (i11 : Int))) with
         | none => none
         | some x951 => 
           ((match F23_rib_Put u6 x951 with
            | none => none
            | some (c112a, c112b) => 
              (match F5_crossroadslaw25_RibOrder_l1 k7 i11 x11 (fuelUp 0 (i11 : Int)) 0 with
              | none => none
              | some (.error r) => some (.error r)
              | some (.ok _) => F5_crossroadslaw25_RibOrder_l2 k7 c98a c112a (i11 + 1) l11))))))
theorem F5_crossroadslaw25_RibOrder_l2_e : True := by
  have := @F5_crossroadslaw25_RibOrder_l2.eq_1
  trivial
def F5_crossroadslaw25_RibOrder_l3 (x8 : TCand) : (again9 : Bool) → List TCand → Option Bool
  | again9, [] => some again9
  | again9, x10 :: l10 => (bif again9 then
        F5_crossroadslaw25_RibOrder_l3 x8 true l10
      else
        (let c55 := F14_rib_Less x10 x8
         (bif c55 then
           F5_crossroadslaw25_RibOrder_l3 x8 false l10
         else
           (let c66 := F14_rib_Less x8 x10
            F5_crossroadslaw25_RibOrder_l3 x8 (!c66) l10))))
theorem F5_crossroadslaw25_RibOrder_l3_e : True := by
  have := @F5_crossroadslaw25_RibOrder_l3.eq_1
  trivial
def F5_crossroadslaw25_RibOrder_l4  : (k7 : List TCand) → List TCand → Option (List TCand)
  | k7, [] => some k7
  | k7, x8 :: l8 => (match F5_crossroadslaw25_RibOrder_l3 x8 false k7 with
      | none => none
      | some again9 => 
        (let c74 := F8_rib_May x8
         (bif c74 then
           (bif again9 then
             F5_crossroadslaw25_RibOrder_l4 k7 l8
           else
             (bif decide (k7.length < 1099511627776) then
               F5_crossroadslaw25_RibOrder_l4 (k7 ++ ([x8] : List TCand)) l8
             else none))
         else
           F5_crossroadslaw25_RibOrder_l4 k7 l8)))
theorem F5_crossroadslaw25_RibOrder_l4_e : True := by
  have := @F5_crossroadslaw25_RibOrder_l4.eq_1
  trivial
/-- crossroads/crossroadslaw25.RibOrder -/
def F5_crossroadslaw25_RibOrder (l0 : List TCand) (p1 : TPrefix) : Option Bool :=
  (bif decide (80 < (l0.length : Int)) then
    F7_crossroadslaw25_alive
  else
    (let c26 := F6_crossroadslaw25_short l0
     (bif c26 then
       (match F5_crossroadslaw25_RibOrder_l4 ([] : List TCand) l0 with
       | none => none
       | some k7 => 
         (match F5_crossroadslaw25_RibOrder_l2 k7 (⟨([] : List TCand)⟩ : TTable) (⟨([] : List TCand)⟩ : TTable) 0 k7 with
         | none => none
         | some (.error r) => some r
         | some (.ok (t5, u6)) => 
           ((match F21_rib_Best t5 p1 with
            | none => none
            | some (c156a, c156b) => 
              ((match F21_rib_Best u6 p1 with
               | none => none
               | some (c162a, c162b) => 
                 ((match F7_crossroadslaw25_alive with
                  | none => none
                  | some c165 => 
                    (bif c165 then
                      ((match F25_crossroadslaw25_rows t5.L with
                       | none => none
                       | some c169 => 
                         ((match F25_crossroadslaw25_rows u6.L with
                          | none => none
                          | some c172 => 
                            (let c173 := F24_crossroadsref25_Rows c169 c172
                             (bif c173 then
                               ((match F10_crossroadslaw25_plain c156a with
                                | none => none
                                | some c177 => 
                                  ((match F10_crossroadslaw25_plain c162a with
                                   | none => none
                                   | some c179 => 
                                     (let c180 := F22_crossroadsref25_Same c177 c179
                                      (bif c180 then
                                        (bif (c156b == c162b) then some (decide ((t5.L.length : Int) = (k7.length : Int))) else some false)
                                      else
                                        some false))))))
                             else
                               some false))))))
                    else
                      some false)))))))))
     else
       F7_crossroadslaw25_alive)))

end Go.Proofs.Ytmfggjebbhdejaa.Abs

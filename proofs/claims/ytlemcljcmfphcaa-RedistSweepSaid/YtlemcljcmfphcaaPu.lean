/- The functions of the program as Lean functions (printed by this work's own program gen.py). -/
import Derived.Test.YtlemcljcmfphcaaP0
set_option linter.unusedVariables false
namespace Go.Proofs.Ytlemcljcmfphcaa.Abs
open Go

structure TPrefix where
  A : Int
  N : Int
  deriving DecidableEq, Inhabited
structure TExt where
  P : TPrefix
  Tag : Int
  Marked : Bool
  deriving DecidableEq, Inhabited
structure TDomain where
  Tag : Int
  In : List TPrefix
  Ext : List TExt
  deriving DecidableEq, Inhabited
structure TWorld where
  D : List TDomain
  deriving DecidableEq, Inhabited
structure TBorder where
  From : Int
  To : Int
  Provider : Bool
  deriving DecidableEq, Inhabited
structure TAct where
  Kind : Int
  B : TBorder
  P : TPrefix
  deriving DecidableEq, Inhabited

def F10_redist_New_l1  : (seen4 : List (Int × Bool)) → (row3 : List TDomain) → List Int → Except (TWorld × Int) ((List (Int × Bool)) × (List TDomain))
  | seen4, row3, [] => .ok (seen4, row3)
  | seen4, row3, x12 :: l12 => (bif ((findM seen4 x12).getD false) then
        .error (((⟨([] : List TDomain)⟩ : TWorld), 1))
      else
        F10_redist_New_l1 (setM seen4 x12 true) (row3 ++ ([(⟨x12, ([] : List TPrefix), ([] : List TExt)⟩ : TDomain)] : List TDomain)) l12)
/-- crossroads/redist.New -/
def F10_redist_New (tags0 : List Int) : TWorld × Int :=
  (match F10_redist_New_l1 (setM ([] : List (Int × Bool)) 0 true) ([] : List TDomain) tags0 with
  | .error r => r
  | .ok (seen4, row3) => 
    (bif decide ((tags0.length : Int) = 0) then
      ((⟨([] : List TDomain)⟩ : TWorld), 1)
    else
      (bif decide (8 < (tags0.length : Int)) then ((⟨([] : List TDomain)⟩ : TWorld), 1) else ((⟨row3⟩ : TWorld), 0))))

/-- (crossroads/redist.World).is -/
def F30_redist_World_is (w0 : TWorld) (d1 : Int) : Bool :=
  ((decide (0 ≤ d1)) && (decide (d1 < (w0.D.length : Int))))

/-- crossroads/addr.isLong -/
def F52_addr_isLong (n0 : Int) : Bool :=
  ((decide (0 ≤ n0)) && (decide (n0 ≤ 32)))

/-- crossroads/addr.Mask -/
def F53_addr_Mask (n0 : Int) : Int :=
  IntKind.u32.wrap (shl_ .u64 4294967295 (IntKind.i64.wrap (32 - (min_ (max_ n0 0) 32))))

/-- crossroads/addr.May -/
def F31_addr_May (p0 : TPrefix) : Bool :=
  (let c5 := F52_addr_isLong p0.N
   (c5 && (let c11 := F53_addr_Mask p0.N
    decide (bit_andNot .u32 p0.A c11 = 0))))

def F61_slices_BinarySearchFunc_l1 (x0 : List TExt) (target1 : TPrefix) (hcmp2 : TExt → TPrefix → Int) (fuel0 : Nat) (i9 : Int) (j10 : Int) : Int × Int :=
  match fuel0 with
  | 0 => (i9, j10)
  | fuel0 + 1 => (bif decide (i9 < j10) then
        (let c30 := hcmp2 (⟨((x0.getD (IntKind.i64.wrap (Int.fdiv (IntKind.u64.wrap (IntKind.i64.wrap (i9 + j10))) (2 ^ 1))).toNat default).P), (x0.getD (IntKind.i64.wrap (Int.fdiv (IntKind.u64.wrap (IntKind.i64.wrap (i9 + j10))) (2 ^ 1))).toNat default).Tag, (x0.getD (IntKind.i64.wrap (Int.fdiv (IntKind.u64.wrap (IntKind.i64.wrap (i9 + j10))) (2 ^ 1))).toNat default).Marked⟩ : TExt) target1
         (bif decide (c30 < 0) then
           F61_slices_BinarySearchFunc_l1 x0 target1 hcmp2 fuel0 (IntKind.i64.wrap ((IntKind.i64.wrap (Int.fdiv (IntKind.u64.wrap (IntKind.i64.wrap (i9 + j10))) (2 ^ 1))) + 1)) j10
         else
           F61_slices_BinarySearchFunc_l1 x0 target1 hcmp2 fuel0 i9 (IntKind.i64.wrap (Int.fdiv (IntKind.u64.wrap (IntKind.i64.wrap (i9 + j10))) (2 ^ 1)))))
      else
        (i9, j10))
/-- slices.BinarySearchFunc[[]crossroads/redist.Ext,crossroads/redist.Ext,crossroads/api.Prefix] -/
def F61_slices_BinarySearchFunc (x0 : List TExt) (target1 : TPrefix) (hcmp2 : TExt → TPrefix → Int) : Int × Bool :=
  (match F61_slices_BinarySearchFunc_l1 x0 target1 hcmp2 (((x0.length : Int) - 0).toNat + 1) 0 (x0.length : Int) with
  | (i9, j10) => (bif decide (i9 < (x0.length : Int)) then
      (let c46 := hcmp2 (⟨((x0.getD i9.toNat default).P), (x0.getD i9.toNat default).Tag, (x0.getD i9.toNat default).Marked⟩ : TExt) target1
       (i9, decide (c46 = 0)))
    else
      (i9, false)))

def F66_cmp_Or_l1  : List Int → Except Int Unit
  | [] => .ok ()
  | x8 :: l8 => (bif decide (x8 = 0) then F66_cmp_Or_l1 l8 else .error (x8))
/-- cmp.Or[int] -/
def F66_cmp_Or (vals0 : List Int) : Int :=
  (match F66_cmp_Or_l1 vals0 with
  | .error r => r
  | .ok _ => 0)

/-- cmp.isNaN[uint32] -/
def F71_cmp_isNaN (x0 : Int) : Bool :=
  !decide (x0 = x0)

/-- cmp.Compare[uint32] -/
def F67_cmp_Compare (x0 : Int) (y1 : Int) : Int :=
  (let c8 := F71_cmp_isNaN x0
   (let c10 := F71_cmp_isNaN y1
    (bif c8 then
      (bif c10 then 0 else (-1))
    else
      (bif c10 then 1 else (bif decide (x0 < y1) then (-1) else (bif decide (y1 < x0) then 1 else 0))))))

/-- cmp.isNaN[int] -/
def F72_cmp_isNaN (x0 : Int) : Bool :=
  !decide (x0 = x0)

/-- cmp.Compare[int] -/
def F68_cmp_Compare (x0 : Int) (y1 : Int) : Int :=
  (let c8 := F72_cmp_isNaN x0
   (let c10 := F72_cmp_isNaN y1
    (bif c8 then
      (bif c10 then 0 else (-1))
    else
      (bif c10 then 1 else (bif decide (x0 < y1) then (-1) else (bif decide (y1 < x0) then 1 else 0))))))

/-- crossroads/redist.order -/
def F56_redist_order (a0 : TPrefix) (b1 : TPrefix) : Int :=
  (let c9 := F67_cmp_Compare a0.A b1.A
   (let c14 := F68_cmp_Compare a0.N b1.N
    F66_cmp_Or ([c9, c14] : List Int)))

/-- (crossroads/redist.Domain).at$1 -/
def F62_redist_Domain_at_1 (x0 : TExt) (p1 : TPrefix) : Int :=
  F56_redist_order x0.P p1

/-- (crossroads/redist.Domain).at -/
def F43_redist_Domain_at (d0 : TDomain) (p1 : TPrefix) : Int × Bool :=
  F61_slices_BinarySearchFunc d0.Ext p1 (fun y0 y1 => F62_redist_Domain_at_1 y0 y1)

/-- (crossroads/redist.Domain).without -/
def F32_redist_Domain_without (d0 : TDomain) (p1 : TPrefix) : TDomain × Bool :=
  (match F43_redist_Domain_at d0 p1 with
   | (c11a, c11b) => (bif c11b then
       ((⟨d0.Tag, d0.In, (del_ d0.Ext c11a (IntKind.i64.wrap (c11a + 1)))⟩ : TDomain), true)
     else
       (d0, false)))

def F55_slices_BinarySearchFunc_l1 (x0 : List TPrefix) (target1 : TPrefix) (hcmp2 : TPrefix → TPrefix → Int) (fuel0 : Nat) (i9 : Int) (j10 : Int) : Int × Int :=
  match fuel0 with
  | 0 => (i9, j10)
  | fuel0 + 1 => (bif decide (i9 < j10) then
        (let c30 := hcmp2 (x0.getD (IntKind.i64.wrap (Int.fdiv (IntKind.u64.wrap (IntKind.i64.wrap (i9 + j10))) (2 ^ 1))).toNat default) target1
         (bif decide (c30 < 0) then
           F55_slices_BinarySearchFunc_l1 x0 target1 hcmp2 fuel0 (IntKind.i64.wrap ((IntKind.i64.wrap (Int.fdiv (IntKind.u64.wrap (IntKind.i64.wrap (i9 + j10))) (2 ^ 1))) + 1)) j10
         else
           F55_slices_BinarySearchFunc_l1 x0 target1 hcmp2 fuel0 i9 (IntKind.i64.wrap (Int.fdiv (IntKind.u64.wrap (IntKind.i64.wrap (i9 + j10))) (2 ^ 1)))))
      else
        (i9, j10))
/-- slices.BinarySearchFunc[[]crossroads/api.Prefix,crossroads/api.Prefix,crossroads/api.Prefix] -/
def F55_slices_BinarySearchFunc (x0 : List TPrefix) (target1 : TPrefix) (hcmp2 : TPrefix → TPrefix → Int) : Int × Bool :=
  (match F55_slices_BinarySearchFunc_l1 x0 target1 hcmp2 (((x0.length : Int) - 0).toNat + 1) 0 (x0.length : Int) with
  | (i9, j10) => (bif decide (i9 < (x0.length : Int)) then
      (let c46 := hcmp2 (x0.getD i9.toNat default) target1
       (i9, decide (c46 = 0)))
    else
      (i9, false)))

/-- (crossroads/redist.Domain).own -/
def F33_redist_Domain_own (d0 : TDomain) (p1 : TPrefix) : Int × Bool :=
  F55_slices_BinarySearchFunc d0.In p1 (fun y0 y1 => F56_redist_order y0 y1)

/-- (crossroads/redist.World).with -/
def F36_redist_World_with (w0 : TWorld) (i1 : Int) (d2 : TDomain) : TWorld :=
  (⟨(w0.D.set i1.toNat d2)⟩ : TWorld)

/-- crossroads/redist.Own -/
def F15_redist_Own (w0 : TWorld) (d1 : Int) (p2 : TPrefix) : TWorld × Int :=
  (let c14 := F30_redist_World_is w0 d1
   (bif c14 then
     (let c18 := F31_addr_May p2
      (bif c18 then
        (match F32_redist_Domain_without (w0.D.getD d1.toNat default) p2 with
         | (c29a, c29b) => (match F33_redist_Domain_own c29a p2 with
            | (c35a, c35b) => (bif c35b then
                (w0, 0)
              else
                (bif decide (50 ≤ (c29a.In.length : Int)) then
                  (w0, 8)
                else
                  (let c58 := F36_redist_World_with w0 d1 (⟨c29a.Tag, (ins_ c29a.In c35a ([p2] : List TPrefix)), c29a.Ext⟩ : TDomain)
                   (c58, 0))))))
      else
        (w0, 1)))
   else
     (w0, 1)))

/-- crossroads/redist.Has -/
def F21_redist_Has (w0 : TWorld) (d1 : Int) (p2 : TPrefix) : TExt × Bool :=
  (let c15 := F30_redist_World_is w0 d1
   (bif c15 then
     (match F33_redist_Domain_own (w0.D.getD d1.toNat default) p2 with
      | (c26a, c26b) => (bif c26b then
          ((⟨p2, (w0.D.getD d1.toNat default).Tag, false⟩ : TExt), true)
        else
          (match F43_redist_Domain_at (w0.D.getD d1.toNat default) p2 with
           | (c37a, c37b) => (bif c37b then
               ((⟨((((w0.D.getD d1.toNat default).Ext).getD c37a.toNat default).P), (((w0.D.getD d1.toNat default).Ext).getD c37a.toNat default).Tag, (((w0.D.getD d1.toNat default).Ext).getD c37a.toNat default).Marked⟩ : TExt), true)
             else
               ((⟨(⟨0, 0⟩ : TPrefix), 0, false⟩ : TExt), false)))))
   else
     ((⟨(⟨0, 0⟩ : TPrefix), 0, false⟩ : TExt), false)))

/-- (crossroads/redist.Border).hears -/
def F42_redist_Border_hears (b0 : TBorder) (d1 : TDomain) (x2 : TExt) : Bool :=
  (match F33_redist_Domain_own d1 x2.P with
   | (c13a, c13b) => (bif c13b then
       false
     else
       (bif decide (x2.Tag = d1.Tag) then false else (bif b0.Provider then !x2.Marked else true))))

/-- crossroads/redist.Tell -/
def F17_redist_Tell (w0 : TWorld) (b1 : TBorder) (p2 : TPrefix) : TWorld × Bool × Int :=
  (let c17 := F30_redist_World_is w0 b1.From
   (bif c17 then
     (let c23 := F30_redist_World_is w0 b1.To
      (bif c23 then
        (bif decide (b1.From = b1.To) then
          (w0, false, 1)
        else
          (let c35 := F31_addr_May p2
           (bif c35 then
             (match F21_redist_Has w0 b1.From p2 with
              | (c44a, c44b) => (bif c44b then
                  (let c59 := F42_redist_Border_hears b1 (w0.D.getD b1.To.toNat default) c44a
                   (bif c59 then
                     (match F43_redist_Domain_at (w0.D.getD b1.To.toNat default) p2 with
                      | (c69a, c69b) => (bif c69b then
                          (bif (decide (((((w0.D.getD b1.To.toNat default).Ext).getD c69a.toNat default).P).A = c44a.P.A) && (decide (((((w0.D.getD b1.To.toNat default).Ext).getD c69a.toNat default).P).N = c44a.P.N) && (decide ((((w0.D.getD b1.To.toNat default).Ext).getD c69a.toNat default).Tag = c44a.Tag) && ((((((w0.D.getD b1.To.toNat default).Ext).getD c69a.toNat default).Marked) == b1.Provider) && true)))) then
                            (w0, false, 0)
                          else
                            (let c112 := F36_redist_World_with w0 b1.To (⟨(w0.D.getD b1.To.toNat default).Tag, (w0.D.getD b1.To.toNat default).In, (((w0.D.getD b1.To.toNat default).Ext).set c69a.toNat (⟨c44a.P, c44a.Tag, b1.Provider⟩ : TExt))⟩ : TDomain)
                             (c112, true, 0)))
                        else
                          (bif decide (50 ≤ (((w0.D.getD b1.To.toNat default).Ext).length : Int)) then
                            (w0, false, 8)
                          else
                            (let c112 := F36_redist_World_with w0 b1.To (⟨(w0.D.getD b1.To.toNat default).Tag, (w0.D.getD b1.To.toNat default).In, (ins_ ((w0.D.getD b1.To.toNat default).Ext) c69a ([(⟨c44a.P, c44a.Tag, b1.Provider⟩ : TExt)] : List TExt))⟩ : TDomain)
                             (c112, true, 0)))))
                   else
                     (w0, false, 0)))
                else
                  (w0, false, 0)))
           else
             (w0, false, 1))))
      else
        (w0, false, 1)))
   else
     (w0, false, 1)))

/-- crossroads/crossroadslaw28.alive -/
def F8_crossroadslaw28_alive : Bool :=
  (match F10_redist_New ([1, 2] : List Int) with
   | (c12a, c12b) => (match F15_redist_Own c12a 0 (⟨0, 0⟩ : TPrefix) with
      | (c18a, c18b) => (match F17_redist_Tell c18a (⟨0, 1, false⟩ : TBorder) (⟨0, 0⟩ : TPrefix) with
         | (c25a, c25b, c25c) => (match F17_redist_Tell c25a (⟨1, 0, false⟩ : TBorder) (⟨0, 0⟩ : TPrefix) with
            | (c33a, c33b, c33c) => (match F21_redist_Has c33a 1 (⟨0, 0⟩ : TPrefix) with
               | (c40a, c40b) => ((decide (c12b = 0)) && ((decide (c18b = 0)) && (c25b && (bif c33b then false else (c40b && (decide (c40a.Tag = 1))))))))))))

/-- crossroads/redist.Cease -/
def F19_redist_Cease (w0 : TWorld) (d1 : Int) (p2 : TPrefix) : TWorld × Bool :=
  (let c12 := F30_redist_World_is w0 d1
   (bif c12 then
     (match F32_redist_Domain_without (w0.D.getD d1.toNat default) p2 with
      | (c22a, c22b) => (let c28 := F36_redist_World_with w0 d1 c22a
         (c28, c22b)))
   else
     (w0, false)))

def F24_redist_Run_l1  : (w2 : TWorld) → List TAct → TWorld
  | w2, [] => w2
  | w2, x9 :: l9 => (bif decide (x9.Kind = 1) then
        (match F15_redist_Own w2 x9.B.From x9.P with
         | (c24a, c24b) => F24_redist_Run_l1 c24a l9)
      else
        (bif decide (x9.Kind = 2) then
          (match F17_redist_Tell w2 x9.B x9.P with
           | (c35a, c35b, c35c) => F24_redist_Run_l1 c35a l9)
        else
          (bif decide (x9.Kind = 3) then
            (match F19_redist_Cease w2 x9.B.From x9.P with
             | (c48a, c48b) => F24_redist_Run_l1 c48a l9)
          else
            F24_redist_Run_l1 w2 l9)))
/-- crossroads/redist.Run -/
def F24_redist_Run (w0 : TWorld) (l1 : List TAct) : TWorld :=
  F24_redist_Run_l1 w0 l1

/-- crossroads/crossroadslaw28.built -/
def F9_crossroadslaw28_built (tags0 : List Int) (script1 : List TAct) : TWorld × Bool :=
  (bif decide (20 < (tags0.length : Int)) then
    ((⟨([] : List TDomain)⟩ : TWorld), false)
  else
    (bif decide (100 < (script1.length : Int)) then
      ((⟨([] : List TDomain)⟩ : TWorld), false)
    else
      (match F10_redist_New tags0 with
       | (c19a, c19b) => (let c24 := F24_redist_Run c19a script1
          (c24, decide (c19b = 0))))))

def F3_crossroadslaw28_RedistProvider_l1 (c36a : TWorld) (i9 : Nat) (x10 : TExt) : (told12 : Bool) → List TAct → Bool
  | told12, [] => told12
  | told12, x13 :: l13 => (bif told12 then
        F3_crossroadslaw28_RedistProvider_l1 c36a i9 x10 true l13
      else
        (bif decide (x13.Kind = 2) then
          (bif decide (x13.B.To = (i9 : Int)) then
            (bif (decide (x13.P.A = x10.P.A) && (decide (x13.P.N = x10.P.N) && true)) then
              (bif decide (0 ≤ x13.B.From) then
                (bif decide (x13.B.From < (c36a.D.length : Int)) then
                  F3_crossroadslaw28_RedistProvider_l1 c36a i9 x10 (decide ((c36a.D.getD x13.B.From.toNat default).Tag = x10.Tag)) l13
                else
                  F3_crossroadslaw28_RedistProvider_l1 c36a i9 x10 false l13)
              else
                F3_crossroadslaw28_RedistProvider_l1 c36a i9 x10 false l13)
            else
              F3_crossroadslaw28_RedistProvider_l1 c36a i9 x10 false l13)
          else
            F3_crossroadslaw28_RedistProvider_l1 c36a i9 x10 false l13)
        else
          F3_crossroadslaw28_RedistProvider_l1 c36a i9 x10 false l13))
def F3_crossroadslaw28_RedistProvider_l4 (l5 : List TAct) (c36a : TWorld) (i9 : Nat) : List TExt → Except Bool Unit
  | [] => .ok ()
  | x10 :: l10 => (let told12 := F3_crossroadslaw28_RedistProvider_l1 c36a i9 x10 false l5
       (bif x10.Marked then
         (bif told12 then F3_crossroadslaw28_RedistProvider_l4 l5 c36a i9 l10 else .error (false))
       else
         .error (false)))
def F3_crossroadslaw28_RedistProvider_l5 (l5 : List TAct) (c36a : TWorld) : (i9 : Nat) → List TDomain → Except Bool Unit
  | i9, [] => .ok ()
  | i9, x9 :: l9 => (match F3_crossroadslaw28_RedistProvider_l4 l5 c36a i9 x9.Ext with
      | .error r => .error r
      | .ok _ => F3_crossroadslaw28_RedistProvider_l5 l5 c36a (i9 + 1) l9)
def F3_crossroadslaw28_RedistProvider_l6  (fuel0 : Nat) (i6 : Int) (l5 : List TAct) : Int × (List TAct) :=
  match fuel0 with
  | 0 => (i6, l5)
  | fuel0 + 1 => (bif decide (i6 < (l5.length : Int)) then
        F3_crossroadslaw28_RedistProvider_l6 fuel0 (IntKind.i64.wrap (i6 + 1)) (l5.set i6.toNat (⟨(l5.getD i6.toNat default).Kind, (⟨((l5.getD i6.toNat default).B).From, ((l5.getD i6.toNat default).B).To, true⟩ : TBorder), ((l5.getD i6.toNat default).P)⟩ : TAct))
      else
        (i6, l5))
/-- crossroads/crossroadslaw28.RedistProvider -/
def F3_crossroadslaw28_RedistProvider (tags0 : List Int) (script1 : List TAct) : Bool :=
  (bif decide (100 < (script1.length : Int)) then
    F8_crossroadslaw28_alive
  else
    (match F3_crossroadslaw28_RedistProvider_l6 (((script1.length : Int) - 0).toNat + 1) 0 script1 with
    | (i6, l5) => (match F9_crossroadslaw28_built tags0 l5 with
       | (c36a, c36b) => (bif c36b then
           (match F3_crossroadslaw28_RedistProvider_l5 l5 c36a 0 c36a.D with
           | .error r => r
           | .ok _ => F8_crossroadslaw28_alive)
         else
           F8_crossroadslaw28_alive))))

def F11_crossroadsref28_New_l1 (tags0 : List Int) (i5 : Nat) (x5 : Int) (fuel6 : Nat) (i6 : Int) : Except (TWorld × Int) Unit :=
  bif decide (i6 < (i5 : Int)) then
    match fuel6 with
    | 0 => .ok ()
    | fuel6 + 1 => (bif decide (x5 = (tags0.getD i6.toNat default)) then
          .error (((⟨([] : List TDomain)⟩ : TWorld), 1))
        else
          F11_crossroadsref28_New_l1 tags0 i5 x5 fuel6 (IntKind.i64.wrap (i6 + 1)))
  else .ok ()
def F11_crossroadsref28_New_l2 (tags0 : List Int) : (row2 : List TDomain) → (i5 : Nat) → List Int → Except (TWorld × Int) (List TDomain)
  | row2, i5, [] => .ok row2
  | row2, i5, x5 :: l5 => (match F11_crossroadsref28_New_l1 tags0 i5 x5 (fuelUp 0 (i5 : Int)) 0 with
      | .error r => .error r
      | .ok _ => 
        (bif decide (x5 = 0) then
          .error (((⟨([] : List TDomain)⟩ : TWorld), 1))
        else
          F11_crossroadsref28_New_l2 tags0 (row2 ++ ([(⟨x5, ([] : List TPrefix), ([] : List TExt)⟩ : TDomain)] : List TDomain)) (i5 + 1) l5))
/-- crossroads/crossroadsref28.New -/
def F11_crossroadsref28_New (tags0 : List Int) : TWorld × Int :=
  (bif decide ((tags0.length : Int) < 1) then
    ((⟨([] : List TDomain)⟩ : TWorld), 1)
  else
    (bif decide (8 < (tags0.length : Int)) then
      ((⟨([] : List TDomain)⟩ : TWorld), 1)
    else
      (match F11_crossroadsref28_New_l2 tags0 ([] : List TDomain) 0 tags0 with
      | .error r => r
      | .ok row2 => ((⟨row2⟩ : TWorld), 0))))

def F12_crossroadsref28_Same_l1 (b1 : TWorld) (i5 : Nat) : (i9 : Nat) → List TExt → Except Bool Unit
  | i9, [] => .ok ()
  | i9, x9 :: l9 => (bif decide (x9.P.A = ((((b1.D.getD i5 default).Ext).getD i9 default).P).A) && (decide (x9.P.N = ((((b1.D.getD i5 default).Ext).getD i9 default).P).N) && (decide (x9.Tag = (((b1.D.getD i5 default).Ext).getD i9 default).Tag) && ((x9.Marked == ((((b1.D.getD i5 default).Ext).getD i9 default).Marked)) && true))) then F12_crossroadsref28_Same_l1 b1 i5 (i9 + 1) l9 else .error (false))
def F12_crossroadsref28_Same_l2 (b1 : TWorld) (i5 : Nat) : (i8 : Nat) → List TPrefix → Except Bool Unit
  | i8, [] => .ok ()
  | i8, x8 :: l8 => (bif decide (x8.A = (((b1.D.getD i5 default).In).getD i8 default).A) && (decide (x8.N = (((b1.D.getD i5 default).In).getD i8 default).N) && true) then F12_crossroadsref28_Same_l2 b1 i5 (i8 + 1) l8 else .error (false))
def F12_crossroadsref28_Same_l3 (b1 : TWorld) : (i5 : Nat) → List TDomain → Except Bool Unit
  | i5, [] => .ok ()
  | i5, x5 :: l5 => (bif decide (x5.Tag = (b1.D.getD i5 default).Tag) then
        (bif decide ((x5.In.length : Int) = (((b1.D.getD i5 default).In).length : Int)) then
          (bif decide ((x5.Ext.length : Int) = (((b1.D.getD i5 default).Ext).length : Int)) then
            (match F12_crossroadsref28_Same_l2 b1 i5 0 x5.In with
            | .error r => .error r
            | .ok _ => 
              (match F12_crossroadsref28_Same_l1 b1 i5 0 x5.Ext with
              | .error r => .error r
              | .ok _ => F12_crossroadsref28_Same_l3 b1 (i5 + 1) l5))
          else
            .error (false))
        else
          .error (false))
      else
        .error (false))
/-- crossroads/crossroadsref28.Same -/
def F12_crossroadsref28_Same (a0 : TWorld) (b1 : TWorld) : Bool :=
  ((decide ((a0.D.length : Int) = (b1.D.length : Int))) && (match F12_crossroadsref28_Same_l3 b1 0 a0.D with
  | .error r => r
  | .ok _ => true))

/-- crossroads/crossroadslaw28.ext -/
def F23_crossroadslaw28_ext (x0 : TExt) : TExt :=
  x0

def F13_crossroadslaw28_plain_l1  : (row5 : List TExt) → List TExt → (List TExt)
  | row5, [] => row5
  | row5, x6 :: l6 => (let c50 := F23_crossroadslaw28_ext x6
       F13_crossroadslaw28_plain_l1 (row5 ++ ([c50] : List TExt)) l6)
def F13_crossroadslaw28_plain_l2  : (row3 : List TDomain) → List TDomain → (List TDomain)
  | row3, [] => row3
  | row3, x4 :: l4 => (let row5 := F13_crossroadslaw28_plain_l1 ([] : List TExt) x4.Ext
       F13_crossroadslaw28_plain_l2 (row3 ++ ([(⟨x4.Tag, x4.In, row5⟩ : TDomain)] : List TDomain)) l4)
/-- crossroads/crossroadslaw28.plain -/
def F13_crossroadslaw28_plain (w0 : TWorld) : TWorld :=
  (let row3 := F13_crossroadslaw28_plain_l2 ([] : List TDomain) w0.D
   (⟨row3⟩ : TWorld))

/-- crossroads/crossroadslaw28.border -/
def F14_crossroadslaw28_border (b0 : TBorder) : TBorder :=
  b0

/-- crossroads/crossroadsref03.Bit -/
def F60_crossroadsref03_Bit (a0 : Int) (i1 : Int) : Int :=
  (bif decide (i1 < 0) then
    0
  else
    (bif decide (31 < i1) then
      0
    else
      IntKind.i64.wrap (bit_and .u32 (shr_ .u32 a0 (IntKind.u64.wrap (IntKind.i64.wrap (31 - i1)))) 1)))

def F37_crossroadsref03_May_l1 (p0 : TPrefix) (fuel3 : Nat) (i3 : Int) : Except Bool Unit :=
  bif decide (i3 < 32) then
    match fuel3 with
    | 0 => .ok ()
    | fuel3 + 1 => (let c21 := F60_crossroadsref03_Bit p0.A i3
         (bif decide (c21 = 1) then .error (false) else F37_crossroadsref03_May_l1 p0 fuel3 (IntKind.i64.wrap (i3 + 1))))
  else .ok ()
/-- crossroads/crossroadsref03.May -/
def F37_crossroadsref03_May (p0 : TPrefix) : Bool :=
  (bif decide (p0.N < 0) then
    false
  else
    (bif decide (32 < p0.N) then
      false
    else
      (match F37_crossroadsref03_May_l1 p0 (fuelUp p0.N 32) p0.N with
      | .error r => r
      | .ok _ => true)))

def F38_crossroadsref28_owns_l1 (p1 : TPrefix) : List TPrefix → Except Bool Unit
  | [] => .ok ()
  | x5 :: l5 => (bif (decide (x5.A = p1.A) && (decide (x5.N = p1.N) && true)) then .error (true) else F38_crossroadsref28_owns_l1 p1 l5)
/-- crossroads/crossroadsref28.owns -/
def F38_crossroadsref28_owns (d0 : TDomain) (p1 : TPrefix) : Bool :=
  (match F38_crossroadsref28_owns_l1 p1 d0.In with
  | .error r => r
  | .ok _ => false)

/-- crossroads/crossroadsref03.Less -/
def F39_crossroadsref03_Less (p0 : TPrefix) (q1 : TPrefix) : Bool :=
  ((decide (p0.A < q1.A)) || ((decide (p0.A = q1.A)) && (decide (p0.N < q1.N))))

def F40_crossroadsref28_without_l1 (p1 : TPrefix) : (out5 : List TExt) → List TExt → (List TExt)
  | out5, [] => out5
  | out5, x6 :: l6 => (bif decide (x6.P.A = p1.A) && (decide (x6.P.N = p1.N) && true) then
        F40_crossroadsref28_without_l1 p1 out5 l6
      else
        F40_crossroadsref28_without_l1 p1 (out5 ++ ([x6] : List TExt)) l6)
/-- crossroads/crossroadsref28.without -/
def F40_crossroadsref28_without (l0 : List TExt) (p1 : TPrefix) : (List TExt) :=
  F40_crossroadsref28_without_l1 p1 ([] : List TExt) l0

/-- crossroads/crossroadsref28.with -/
def F41_crossroadsref28_with (w0 : TWorld) (i1 : Int) (d2 : TDomain) : TWorld :=
  (⟨(w0.D.set i1.toNat d2)⟩ : TWorld)

def F16_crossroadsref28_Own_l1 (p2 : TPrefix) : (put10 : Bool) → (out9 : List TPrefix) → List TPrefix → Bool × (List TPrefix)
  | put10, out9, [] => (put10, out9)
  | put10, out9, x11 :: l11 => (bif put10 then
        F16_crossroadsref28_Own_l1 p2 true (out9 ++ ([x11] : List TPrefix)) l11
      else
        (let c58 := F39_crossroadsref03_Less p2 x11
         (bif c58 then
           F16_crossroadsref28_Own_l1 p2 true ((out9 ++ ([p2] : List TPrefix)) ++ ([x11] : List TPrefix)) l11
         else
           F16_crossroadsref28_Own_l1 p2 false (out9 ++ ([x11] : List TPrefix)) l11)))
/-- crossroads/crossroadsref28.Own -/
def F16_crossroadsref28_Own (w0 : TWorld) (d1 : Int) (p2 : TPrefix) : TWorld × Int :=
  (bif decide (d1 < 0) then
    (w0, 1)
  else
    (bif decide ((w0.D.length : Int) ≤ d1) then
      (w0, 1)
    else
      (let c23 := F37_crossroadsref03_May p2
       (bif c23 then
         (let c34 := F38_crossroadsref28_owns (w0.D.getD d1.toNat default) p2
          (bif c34 then
            (w0, 0)
          else
            (bif decide (50 ≤ (((w0.D.getD d1.toNat default).In).length : Int)) then
              (w0, 8)
            else
              (match F16_crossroadsref28_Own_l1 p2 false ([] : List TPrefix) ((w0.D.getD d1.toNat default).In) with
              | (put10, out9) => (bif put10 then
                  (let c83 := F40_crossroadsref28_without ((w0.D.getD d1.toNat default).Ext) p2
                   (let c88 := F41_crossroadsref28_with w0 d1 (⟨(w0.D.getD d1.toNat default).Tag, out9, c83⟩ : TDomain)
                    (c88, 0)))
                else
                  (let c83 := F40_crossroadsref28_without ((w0.D.getD d1.toNat default).Ext) p2
                   (let c88 := F41_crossroadsref28_with w0 d1 (⟨(w0.D.getD d1.toNat default).Tag, (out9 ++ ([p2] : List TPrefix)), c83⟩ : TDomain)
                    (c88, 0))))))))
       else
         (w0, 1)))))

def F22_crossroadsref28_Has_l1 (p2 : TPrefix) : List TExt → Except (TExt × Bool) Unit
  | [] => .ok ()
  | x8 :: l8 => (bif (decide (x8.P.A = p2.A) && (decide (x8.P.N = p2.N) && true)) then .error ((x8, true)) else F22_crossroadsref28_Has_l1 p2 l8)
/-- crossroads/crossroadsref28.Has -/
def F22_crossroadsref28_Has (w0 : TWorld) (d1 : Int) (p2 : TPrefix) : TExt × Bool :=
  (bif decide (d1 < 0) then
    ((⟨(⟨0, 0⟩ : TPrefix), 0, false⟩ : TExt), false)
  else
    (bif decide ((w0.D.length : Int) ≤ d1) then
      ((⟨(⟨0, 0⟩ : TPrefix), 0, false⟩ : TExt), false)
    else
      (let c25 := F38_crossroadsref28_owns (w0.D.getD d1.toNat default) p2
       (bif c25 then
         ((⟨p2, (w0.D.getD d1.toNat default).Tag, false⟩ : TExt), true)
       else
         (match F22_crossroadsref28_Has_l1 p2 ((w0.D.getD d1.toNat default).Ext) with
         | .error r => r
         | .ok _ => ((⟨(⟨0, 0⟩ : TPrefix), 0, false⟩ : TExt), false))))))

def F46_crossroadsref28_into_l1 (x1 : TExt) : (put7 : Bool) → (out6 : List TExt) → List TExt → Bool × (List TExt)
  | put7, out6, [] => (put7, out6)
  | put7, out6, x8 :: l8 => (bif put7 then
        F46_crossroadsref28_into_l1 x1 true (out6 ++ ([x8] : List TExt)) l8
      else
        (let c30 := F39_crossroadsref03_Less x1.P x8.P
         (bif c30 then
           F46_crossroadsref28_into_l1 x1 true ((out6 ++ ([x1] : List TExt)) ++ ([x8] : List TExt)) l8
         else
           F46_crossroadsref28_into_l1 x1 false (out6 ++ ([x8] : List TExt)) l8)))
/-- crossroads/crossroadsref28.into -/
def F46_crossroadsref28_into (l0 : List TExt) (x1 : TExt) : (List TExt) :=
  (let c12 := F40_crossroadsref28_without l0 x1.P
   (match F46_crossroadsref28_into_l1 x1 false ([] : List TExt) c12 with
   | (put7, out6) => (bif put7 then out6 else (out6 ++ ([x1] : List TExt)))))

/-- crossroads/crossroadsref28.Tell -/
def F18_crossroadsref28_Tell (w0 : TWorld) (b1 : TBorder) (p2 : TPrefix) : TWorld × Bool × Int :=
  (bif decide (b1.From < 0) then
    (w0, false, 1)
  else
    (bif decide ((w0.D.length : Int) ≤ b1.From) then
      (w0, false, 1)
    else
      (bif decide (b1.To < 0) then
        (w0, false, 1)
      else
        (bif decide ((w0.D.length : Int) ≤ b1.To) then
          (w0, false, 1)
        else
          (bif decide (b1.From = b1.To) then
            (w0, false, 1)
          else
            (let c47 := F37_crossroadsref03_May p2
             (bif c47 then
               (match F22_crossroadsref28_Has w0 b1.From p2 with
                | (c56a, c56b) => (bif c56b then
                    (bif decide (c56a.Tag = (w0.D.getD b1.To.toNat default).Tag) then
                      (w0, false, 0)
                    else
                      (bif b1.Provider then
                        (bif c56a.Marked then
                          (w0, false, 0)
                        else
                          (let c85 := F38_crossroadsref28_owns (w0.D.getD b1.To.toNat default) p2
                           (bif c85 then
                             (w0, false, 0)
                           else
                             (match F22_crossroadsref28_Has w0 b1.To p2 with
                              | (c96a, c96b) => (bif c96b then
                                  (let c111 := F46_crossroadsref28_into ((w0.D.getD b1.To.toNat default).Ext) (⟨c56a.P, c56a.Tag, true⟩ : TExt)
                                   (let c117 := F41_crossroadsref28_with w0 b1.To (⟨(w0.D.getD b1.To.toNat default).Tag, (w0.D.getD b1.To.toNat default).In, c111⟩ : TDomain)
                                    (c117, !(decide (c96a.P.A = c56a.P.A) && (decide (c96a.P.N = c56a.P.N) && (decide (c96a.Tag = c56a.Tag) && ((c96a.Marked == true) && true)))), 0)))
                                else
                                  (bif decide (50 ≤ (((w0.D.getD b1.To.toNat default).Ext).length : Int)) then
                                    (w0, false, 8)
                                  else
                                    (let c111 := F46_crossroadsref28_into ((w0.D.getD b1.To.toNat default).Ext) (⟨c56a.P, c56a.Tag, true⟩ : TExt)
                                     (let c117 := F41_crossroadsref28_with w0 b1.To (⟨(w0.D.getD b1.To.toNat default).Tag, (w0.D.getD b1.To.toNat default).In, c111⟩ : TDomain)
                                      (c117, true, 0)))))))))
                      else
                        (let c85 := F38_crossroadsref28_owns (w0.D.getD b1.To.toNat default) p2
                         (bif c85 then
                           (w0, false, 0)
                         else
                           (match F22_crossroadsref28_Has w0 b1.To p2 with
                            | (c96a, c96b) => (bif c96b then
                                (let c111 := F46_crossroadsref28_into ((w0.D.getD b1.To.toNat default).Ext) (⟨c56a.P, c56a.Tag, false⟩ : TExt)
                                 (let c117 := F41_crossroadsref28_with w0 b1.To (⟨(w0.D.getD b1.To.toNat default).Tag, (w0.D.getD b1.To.toNat default).In, c111⟩ : TDomain)
                                  (c117, !(decide (c96a.P.A = c56a.P.A) && (decide (c96a.P.N = c56a.P.N) && (decide (c96a.Tag = c56a.Tag) && ((c96a.Marked == false) && true)))), 0)))
                              else
                                (bif decide (50 ≤ (((w0.D.getD b1.To.toNat default).Ext).length : Int)) then
                                  (w0, false, 8)
                                else
                                  (let c111 := F46_crossroadsref28_into ((w0.D.getD b1.To.toNat default).Ext) (⟨c56a.P, c56a.Tag, false⟩ : TExt)
                                   (let c117 := F41_crossroadsref28_with w0 b1.To (⟨(w0.D.getD b1.To.toNat default).Tag, (w0.D.getD b1.To.toNat default).In, c111⟩ : TDomain)
                                    (c117, true, 0))))))))))
                  else
                    (w0, false, 0)))
             else
               (w0, false, 1))))))))

/-- crossroads/crossroadsref28.Cease -/
def F20_crossroadsref28_Cease (w0 : TWorld) (d1 : Int) (p2 : TPrefix) : TWorld × Bool :=
  (bif decide (d1 < 0) then
    (w0, false)
  else
    (bif decide ((w0.D.length : Int) ≤ d1) then
      (w0, false)
    else
      (let c31 := F40_crossroadsref28_without ((w0.D.getD d1.toNat default).Ext) p2
       (let c36 := F41_crossroadsref28_with w0 d1 (⟨(w0.D.getD d1.toNat default).Tag, (w0.D.getD d1.toNat default).In, c31⟩ : TDomain)
        (c36, decide ((c31.length : Int) < (((w0.D.getD d1.toNat default).Ext).length : Int)))))))

def F25_crossroadsref28_Run_l1  : (w2 : TWorld) → List TAct → TWorld
  | w2, [] => w2
  | w2, x5 :: l5 => (bif decide (x5.Kind = 1) then
        (match F16_crossroadsref28_Own w2 x5.B.From x5.P with
         | (c34a, c34b) => (bif decide (x5.Kind = 2) then
             (match F18_crossroadsref28_Tell c34a x5.B x5.P with
              | (c47a, c47b, c47c) => (bif decide (x5.Kind = 3) then
                  (match F20_crossroadsref28_Cease c47a x5.B.From x5.P with
                   | (c62a, c62b) => F25_crossroadsref28_Run_l1 c62a l5)
                else
                  F25_crossroadsref28_Run_l1 c47a l5))
           else
             (bif decide (x5.Kind = 3) then
               (match F20_crossroadsref28_Cease c34a x5.B.From x5.P with
                | (c62a, c62b) => F25_crossroadsref28_Run_l1 c62a l5)
             else
               F25_crossroadsref28_Run_l1 c34a l5)))
      else
        (bif decide (x5.Kind = 2) then
          (match F18_crossroadsref28_Tell w2 x5.B x5.P with
           | (c47a, c47b, c47c) => (bif decide (x5.Kind = 3) then
               (match F20_crossroadsref28_Cease c47a x5.B.From x5.P with
                | (c62a, c62b) => F25_crossroadsref28_Run_l1 c62a l5)
             else
               F25_crossroadsref28_Run_l1 c47a l5))
        else
          (bif decide (x5.Kind = 3) then
            (match F20_crossroadsref28_Cease w2 x5.B.From x5.P with
             | (c62a, c62b) => F25_crossroadsref28_Run_l1 c62a l5)
          else
            F25_crossroadsref28_Run_l1 w2 l5)))
/-- crossroads/crossroadsref28.Run -/
def F25_crossroadsref28_Run (w0 : TWorld) (l1 : List TAct) : TWorld :=
  F25_crossroadsref28_Run_l1 w0 l1

def F47_slices_EqualFunc_l1 (s21 : List TDomain) (heq2 : TDomain → TDomain → Bool) : (i17 : Nat) → List TDomain → Except Bool Unit
  | i17, [] => .ok ()
  | i17, x17 :: l17 => (let c29 := heq2 x17 (s21.getD i17 default)
       (bif c29 then F47_slices_EqualFunc_l1 s21 heq2 (i17 + 1) l17 else .error (false)))
/-- slices.EqualFunc[[]crossroads/redist.Domain,[]crossroads/redist.Domain,crossroads/redist.Domain,crossroads/redist.Domain] -/
def F47_slices_EqualFunc (s10 : List TDomain) (s21 : List TDomain) (heq2 : TDomain → TDomain → Bool) : Bool :=
  ((decide ((s10.length : Int) = (s21.length : Int))) && (match F47_slices_EqualFunc_l1 s21 heq2 0 s10 with
  | .error r => r
  | .ok _ => true))

def F49_slices_Equal_l1 (s21 : List TPrefix) : (i13 : Nat) → List TPrefix → Except Bool Unit
  | i13, [] => .ok ()
  | i13, x13 :: l13 => (bif decide (x13.A = (s21.getD i13 default).A) && (decide (x13.N = (s21.getD i13 default).N) && true) then F49_slices_Equal_l1 s21 (i13 + 1) l13 else .error (false))
/-- slices.Equal[[]crossroads/api.Prefix,crossroads/api.Prefix] -/
def F49_slices_Equal (s10 : List TPrefix) (s21 : List TPrefix) : Bool :=
  ((decide ((s10.length : Int) = (s21.length : Int))) && (match F49_slices_Equal_l1 s21 0 s10 with
  | .error r => r
  | .ok _ => true))

def F50_slices_Equal_l1 (s21 : List TExt) : (i13 : Nat) → List TExt → Except Bool Unit
  | i13, [] => .ok ()
  | i13, x13 :: l13 => (bif decide (x13.P.A = ((s21.getD i13 default).P).A) && (decide (x13.P.N = ((s21.getD i13 default).P).N) && (decide (x13.Tag = (s21.getD i13 default).Tag) && ((x13.Marked == ((s21.getD i13 default).Marked)) && true))) then F50_slices_Equal_l1 s21 (i13 + 1) l13 else .error (false))
/-- slices.Equal[[]crossroads/redist.Ext,crossroads/redist.Ext] -/
def F50_slices_Equal (s10 : List TExt) (s21 : List TExt) : Bool :=
  ((decide ((s10.length : Int) = (s21.length : Int))) && (match F50_slices_Equal_l1 s21 0 s10 with
  | .error r => r
  | .ok _ => true))

/-- crossroads/redist.Same$1 -/
def F48_redist_Same_1 (x0 : TDomain) (y1 : TDomain) : Bool :=
  ((decide (x0.Tag = y1.Tag)) && (let c15 := F49_slices_Equal x0.In y1.In
   (c15 && (F50_slices_Equal x0.Ext y1.Ext))))

/-- crossroads/redist.Same -/
def F26_redist_Same (a0 : TWorld) (b1 : TWorld) : Bool :=
  F47_slices_EqualFunc a0.D b1.D (fun y0 y1 => F48_redist_Same_1 y0 y1)

def F4_crossroadslaw28_RedistPlays_l1  : (w5 : TWorld) → (m7 : TWorld) → (acts9 : List TAct) → (model10 : List TAct) → (i13 : Nat) → List TAct → Except Bool (TWorld × TWorld × (List TAct) × (List TAct))
  | w5, m7, acts9, model10, i13, [] => .ok (w5, m7, acts9, model10)
  | w5, m7, acts9, model10, i13, x13 :: l13 => (bif decide ((i13 : Int) < 100) then
        (let c89 := F14_crossroadslaw28_border x13.B
         (bif decide (x13.Kind = 1) then
           (match F15_redist_Own w5 x13.B.From x13.P with
            | (c106a, c106b) => (match F16_crossroadsref28_Own m7 x13.B.From x13.P with
               | (c116a, c116b) => (match F21_redist_Has c106a x13.B.To x13.P with
                  | (c191a, c191b) => (match F22_crossroadsref28_Has c116a x13.B.To x13.P with
                     | (c201a, c201b) => (bif decide (c106b = c116b) then
                         (let c208 := F13_crossroadslaw28_plain c106a
                          (let c210 := F12_crossroadsref28_Same c208 c116a
                           (bif c210 then
                             (let c215 := F13_crossroadslaw28_plain w5
                              (let c217 := F12_crossroadsref28_Same c215 m7
                               (bif c217 then
                                 (let c222 := F23_crossroadslaw28_ext c191a
                                  (bif decide (c222.P.A = c201a.P.A) && (decide (c222.P.N = c201a.P.N) && (decide (c222.Tag = c201a.Tag) && ((c222.Marked == c201a.Marked) && true))) then
                                    (bif c191b == c201b then
                                      F4_crossroadslaw28_RedistPlays_l1 c106a c116a (acts9 ++ ([x13] : List TAct)) (model10 ++ ([(⟨x13.Kind, c89, x13.P⟩ : TAct)] : List TAct)) (i13 + 1) l13
                                    else
                                      .error (false))
                                  else
                                    .error (false)))
                               else
                                 .error (false))))
                           else
                             .error (false))))
                       else
                         .error (false))))))
         else
           (bif decide (x13.Kind = 2) then
             (match F17_redist_Tell w5 x13.B x13.P with
              | (c132a, c132b, c132c) => ((match F18_crossroadsref28_Tell m7 c89 x13.P with
                  | (c143a, c143b, c143c) => (bif (c132b == c143b) then
                      (match F21_redist_Has c132a x13.B.To x13.P with
                       | (c191a, c191b) => (match F22_crossroadsref28_Has c143a x13.B.To x13.P with
                          | (c201a, c201b) => (bif decide (c132c = c143c) then
                              (let c208 := F13_crossroadslaw28_plain c132a
                               (let c210 := F12_crossroadsref28_Same c208 c143a
                                (bif c210 then
                                  (let c215 := F13_crossroadslaw28_plain w5
                                   (let c217 := F12_crossroadsref28_Same c215 m7
                                    (bif c217 then
                                      (let c222 := F23_crossroadslaw28_ext c191a
                                       (bif decide (c222.P.A = c201a.P.A) && (decide (c222.P.N = c201a.P.N) && (decide (c222.Tag = c201a.Tag) && ((c222.Marked == c201a.Marked) && true))) then
                                         (bif c191b == c201b then
                                           F4_crossroadslaw28_RedistPlays_l1 c132a c143a (acts9 ++ ([x13] : List TAct)) (model10 ++ ([(⟨x13.Kind, c89, x13.P⟩ : TAct)] : List TAct)) (i13 + 1) l13
                                         else
                                           .error (false))
                                       else
                                         .error (false)))
                                    else
                                      .error (false))))
                                else
                                  .error (false))))
                            else
                              .error (false))))
                    else
                      (match F21_redist_Has c132a x13.B.To x13.P with
                       | (c191a, c191b) => (match F22_crossroadsref28_Has c143a x13.B.To x13.P with
                          | (c201a, c201b) => .error (false)))))))
           else
             (bif decide (x13.Kind = 3) then
               (match F19_redist_Cease w5 x13.B.From x13.P with
                | (c166a, c166b) => (match F20_crossroadsref28_Cease m7 x13.B.From x13.P with
                   | (c176a, c176b) => (match F21_redist_Has c166a x13.B.To x13.P with
                      | (c191a, c191b) => (match F22_crossroadsref28_Has c176a x13.B.To x13.P with
                         | (c201a, c201b) => (bif c166b == c176b then
                             (let c208 := F13_crossroadslaw28_plain c166a
                              (let c210 := F12_crossroadsref28_Same c208 c176a
                               (bif c210 then
                                 (let c215 := F13_crossroadslaw28_plain w5
                                  (let c217 := F12_crossroadsref28_Same c215 m7
                                   (bif c217 then
                                     (let c222 := F23_crossroadslaw28_ext c191a
                                      (bif decide (c222.P.A = c201a.P.A) && (decide (c222.P.N = c201a.P.N) && (decide (c222.Tag = c201a.Tag) && ((c222.Marked == c201a.Marked) && true))) then
                                        (bif c191b == c201b then
                                          F4_crossroadslaw28_RedistPlays_l1 c166a c176a (acts9 ++ ([x13] : List TAct)) (model10 ++ ([(⟨x13.Kind, c89, x13.P⟩ : TAct)] : List TAct)) (i13 + 1) l13
                                        else
                                          .error (false))
                                      else
                                        .error (false)))
                                   else
                                     .error (false))))
                               else
                                 .error (false))))
                           else
                             .error (false))))))
             else
               (match F21_redist_Has w5 x13.B.To x13.P with
                | (c191a, c191b) => (match F22_crossroadsref28_Has m7 x13.B.To x13.P with
                   | (c201a, c201b) => (let c208 := F13_crossroadslaw28_plain w5
                      (let c210 := F12_crossroadsref28_Same c208 m7
                       (bif c210 then
                         (((let c222 := F23_crossroadslaw28_ext c191a
                            (bif decide (c222.P.A = c201a.P.A) && (decide (c222.P.N = c201a.P.N) && (decide (c222.Tag = c201a.Tag) && ((c222.Marked == c201a.Marked) && true))) then
                              (bif c191b == c201b then
                                F4_crossroadslaw28_RedistPlays_l1 w5 m7 (acts9 ++ ([x13] : List TAct)) (model10 ++ ([(⟨x13.Kind, c89, x13.P⟩ : TAct)] : List TAct)) (i13 + 1) l13
                              else
                                .error (false))
                            else
                              .error (false)))))
                       else
                         .error (false))))))))))
      else
        .ok (w5, m7, acts9, model10))
/-- crossroads/crossroadslaw28.RedistPlays -/
def F4_crossroadslaw28_RedistPlays (tags0 : List Int) (script1 : List TAct) : Bool :=
  (bif decide (20 < (tags0.length : Int)) then
    F8_crossroadslaw28_alive
  else
    (match F10_redist_New tags0 with
     | (c42a, c42b) => (match F11_crossroadsref28_New tags0 with
        | (c47a, c47b) => ((decide (c42b = c47b)) && (let c55 := F13_crossroadslaw28_plain c42a
           (let c57 := F12_crossroadsref28_Same c55 c47a
            (c57 && (match F4_crossroadslaw28_RedistPlays_l1 c42a c47a ([] : List TAct) ([] : List TAct) 0 script1 with
            | .error r => r
            | .ok (w5, m7, acts9, model10) => 
              (let c231 := F8_crossroadslaw28_alive
               (c231 && (let c235 := F24_redist_Run c42a acts9
                (let c236 := F13_crossroadslaw28_plain c235
                 (let c239 := F25_crossroadsref28_Run c47a model10
                  (let c240 := F12_crossroadsref28_Same c236 c239
                   (c240 && (let c245 := F26_redist_Same w5 c42a
                    (let c248 := F12_crossroadsref28_Same m7 c47a
                     (c245 == c248))))))))))))))))))

def F65_redist_Domain_tells_l1  : (out3 : List TPrefix) → List TExt → (List TPrefix)
  | out3, [] => out3
  | out3, x12 :: l12 => F65_redist_Domain_tells_l1 (out3 ++ ([x12.P] : List TPrefix)) l12
/-- (crossroads/redist.Domain).tells -/
def F65_redist_Domain_tells (d0 : TDomain) : (List TPrefix) :=
  F65_redist_Domain_tells_l1 d0.In d0.Ext

def F51_redist_once_l1 (x16 : TBorder) : (changed6x : Bool) → (w2x : TWorld) → List TPrefix → Bool × TWorld
  | changed6x, w2x, [] => (changed6x, w2x)
  | changed6x, w2x, x33 :: l33 => (match F17_redist_Tell w2x x16 x33 with
       | (c41a, c41b, c41c) => (bif changed6x then F51_redist_once_l1 x16 true c41a l33 else F51_redist_once_l1 x16 c41b c41a l33))
def F51_redist_once_l2  : (changed6 : Bool) → (w2 : TWorld) → List TBorder → Bool × TWorld
  | changed6, w2, [] => (changed6, w2)
  | changed6, w2, x16 :: l16 => (let c23 := F30_redist_World_is w2 x16.From
       (bif c23 then
         (let c31 := F65_redist_Domain_tells (w2.D.getD x16.From.toNat default)
          (match F51_redist_once_l1 x16 changed6 w2 c31 with
          | (changed6x, w2x) => F51_redist_once_l2 changed6x w2x l16))
       else
         F51_redist_once_l2 changed6 w2 l16))
/-- crossroads/redist.once -/
def F51_redist_once (w0 : TWorld) (l1 : List TBorder) : TWorld × Bool :=
  (match F51_redist_once_l2 false w0 l1 with
  | (changed6, w2) => (w2, changed6))

def F27_redist_Sweep_l1 (l1 : List TBorder) (fuel0 : Nat) (n6 : Int) (w2 : TWorld) : Except (TWorld × Int) (Int × TWorld) :=
  match fuel0 with
  | 0 => .ok (n6, w2)
  | fuel0 + 1 => (match F51_redist_once w2 l1 with
       | (c14a, c14b) => (bif c14b then
           (bif decide (n6 = 64) then .error ((c14a, n6)) else F27_redist_Sweep_l1 l1 fuel0 (IntKind.i64.wrap (n6 + 1)) c14a)
         else
           .error ((c14a, n6))))
/-- crossroads/redist.Sweep -/
def F27_redist_Sweep (w0 : TWorld) (l1 : List TBorder) : TWorld × Int :=
  (match F27_redist_Sweep_l1 l1 ((65 - 1 : Int).toNat + 1) 1 w0 with
  | .error r => r
  | .ok (n6, w2) => default)

def F28_crossroadsref28_Sweep_l1 (x8 : TBorder) : (changed7x : Bool) → (w2xx : TWorld) → List TPrefix → Bool × TWorld
  | changed7x, w2xx, [] => (changed7x, w2xx)
  | changed7x, w2xx, x12 :: l12 => (match F18_crossroadsref28_Tell w2xx x8 x12 with
       | (c89a, c89b, c89c) => (bif changed7x then F28_crossroadsref28_Sweep_l1 x8 true c89a l12 else F28_crossroadsref28_Sweep_l1 x8 c89b c89a l12))
def F28_crossroadsref28_Sweep_l2  : (tells10 : List TPrefix) → List TExt → (List TPrefix)
  | tells10, [] => tells10
  | tells10, x11 :: l11 => F28_crossroadsref28_Sweep_l2 (tells10 ++ ([x11.P] : List TPrefix)) l11
def F28_crossroadsref28_Sweep_l3  : (changed7 : Bool) → (w2x : TWorld) → List TBorder → Bool × TWorld
  | changed7, w2x, [] => (changed7, w2x)
  | changed7, w2x, x8 :: l8 => (bif decide (x8.From < 0) then
        F28_crossroadsref28_Sweep_l3 changed7 w2x l8
      else
        (bif decide ((w2x.D.length : Int) ≤ x8.From) then
          F28_crossroadsref28_Sweep_l3 changed7 w2x l8
        else
          (let tells10 := F28_crossroadsref28_Sweep_l2 ((w2x.D.getD x8.From.toNat default).In) ((w2x.D.getD x8.From.toNat default).Ext)
           (match F28_crossroadsref28_Sweep_l1 x8 changed7 w2x tells10 with
           | (changed7x, w2xx) => F28_crossroadsref28_Sweep_l3 changed7x w2xx l8))))
def F28_crossroadsref28_Sweep_l4 (l1 : List TBorder) (fuel0 : Nat) (n6 : Int) (w2 : TWorld) : Except (TWorld × Int) (Int × TWorld) :=
  match fuel0 with
  | 0 => .ok (n6, w2)
  | fuel0 + 1 => (bif decide (n6 ≤ 64) then
        (match F28_crossroadsref28_Sweep_l3 false w2 l1 with
        | (changed7, w2x) => (bif changed7 then
            (bif decide (n6 = 64) then .error ((w2x, n6)) else F28_crossroadsref28_Sweep_l4 l1 fuel0 (IntKind.i64.wrap (n6 + 1)) w2x)
          else
            .error ((w2x, n6))))
      else
        .ok (n6, w2))
/-- crossroads/crossroadsref28.Sweep -/
def F28_crossroadsref28_Sweep (w0 : TWorld) (l1 : List TBorder) : TWorld × Int :=
  (match F28_crossroadsref28_Sweep_l4 l1 ((65 - 1 : Int).toNat + 1) 1 w0 with
  | .error r => r
  | .ok (n6, w2) => (w2, 64))

def F5_crossroadslaw28_RedistSweep_l1  : (k9 : List TBorder) → List TBorder → (List TBorder)
  | k9, [] => k9
  | k9, x10 :: l10 => (let c41 := F14_crossroadslaw28_border x10
       F5_crossroadslaw28_RedistSweep_l1 (k9 ++ ([c41] : List TBorder)) l10)
/-- crossroads/crossroadslaw28.RedistSweep -/
def F5_crossroadslaw28_RedistSweep (tags0 : List Int) (script1 : List TAct) (l2 : List TBorder) : Bool :=
  (match F9_crossroadslaw28_built tags0 script1 with
   | (c18a, c18b) => (bif c18b then
       (bif decide (20 < (l2.length : Int)) then
         F8_crossroadslaw28_alive
       else
         (let k9 := F5_crossroadslaw28_RedistSweep_l1 ([] : List TBorder) l2
          (match F27_redist_Sweep c18a l2 with
           | (c47a, c47b) => (let c52 := F13_crossroadslaw28_plain c18a
              (match F28_crossroadsref28_Sweep c52 k9 with
               | (c54a, c54b) => (let c57 := F8_crossroadslaw28_alive
                  (c57 && (let c60 := F13_crossroadslaw28_plain c47a
                   (let c62 := F12_crossroadsref28_Same c60 c54a
                    (c62 && (decide (c47b = c54b))))))))))))
     else
       F8_crossroadslaw28_alive))

def F29_crossroadslaw28_sane_l1 (i3 : Nat) (x3 : TDomain) (x4 : TExt) (i7 : Nat) (x7 : TDomain) : (from6x : Bool) → (i8 : Nat) → List TPrefix → Except Bool Bool
  | from6x, i8, [] => .ok from6x
  | from6x, i8, x8 :: l8 => (bif from6x then
        (bif decide ((i7 : Int) = (i3 : Int)) then
          (bif (decide ((x3.In.getD i8 default).A = x4.P.A) && (decide ((x3.In.getD i8 default).N = x4.P.N) && true)) then .error (false) else F29_crossroadslaw28_sane_l1 i3 x3 x4 i7 x7 true (i8 + 1) l8)
        else
          F29_crossroadslaw28_sane_l1 i3 x3 x4 i7 x7 true (i8 + 1) l8)
      else
        (bif decide (x7.Tag = x4.Tag) then
          (bif decide ((i7 : Int) = (i3 : Int)) then
            (bif (decide ((x3.In.getD i8 default).A = x4.P.A) && (decide ((x3.In.getD i8 default).N = x4.P.N) && true)) then
              .error (false)
            else
              F29_crossroadslaw28_sane_l1 i3 x3 x4 i7 x7 (decide (x8.A = x4.P.A) && (decide (x8.N = x4.P.N) && true)) (i8 + 1) l8)
          else
            F29_crossroadslaw28_sane_l1 i3 x3 x4 i7 x7 (decide (x8.A = x4.P.A) && (decide (x8.N = x4.P.N) && true)) (i8 + 1) l8)
        else
          (bif decide ((i7 : Int) = (i3 : Int)) then
            (bif (decide ((x3.In.getD i8 default).A = x4.P.A) && (decide ((x3.In.getD i8 default).N = x4.P.N) && true)) then .error (false) else F29_crossroadslaw28_sane_l1 i3 x3 x4 i7 x7 false (i8 + 1) l8)
          else
            F29_crossroadslaw28_sane_l1 i3 x3 x4 i7 x7 false (i8 + 1) l8)))
def F29_crossroadslaw28_sane_l2 (i3 : Nat) (x3 : TDomain) (x4 : TExt) : (from6 : Bool) → (i7 : Nat) → List TDomain → Except Bool Bool
  | from6, i7, [] => .ok from6
  | from6, i7, x7 :: l7 => (match F29_crossroadslaw28_sane_l1 i3 x3 x4 i7 x7 from6 0 x7.In with
      | .error r => .error r
      | .ok from6x => F29_crossroadslaw28_sane_l2 i3 x3 x4 from6x (i7 + 1) l7)
def F29_crossroadslaw28_sane_l3 (w0 : TWorld) (i3 : Nat) (x3 : TDomain) : List TExt → Except Bool Unit
  | [] => .ok ()
  | x4 :: l4 => (match F29_crossroadslaw28_sane_l2 i3 x3 x4 false 0 w0.D with
      | .error r => .error r
      | .ok from6 => 
        (bif from6 then
          (bif decide (x4.Tag = x3.Tag) then .error (false) else F29_crossroadslaw28_sane_l3 w0 i3 x3 l4)
        else
          .error (false)))
def F29_crossroadslaw28_sane_l4 (w0 : TWorld) : (i3 : Nat) → List TDomain → Except Bool Unit
  | i3, [] => .ok ()
  | i3, x3 :: l3 => (match F29_crossroadslaw28_sane_l3 w0 i3 x3 x3.Ext with
      | .error r => .error r
      | .ok _ => F29_crossroadslaw28_sane_l4 w0 (i3 + 1) l3)
/-- crossroads/crossroadslaw28.sane -/
def F29_crossroadslaw28_sane (w0 : TWorld) : Bool :=
  (match F29_crossroadslaw28_sane_l4 w0 0 w0.D with
  | .error r => r
  | .ok _ => true)

/-- crossroads/crossroadslaw28.RedistEcho -/
def F6_crossroadslaw28_RedistEcho (tags0 : List Int) (script1 : List TAct) (l2 : List TBorder) : Bool :=
  (match F9_crossroadslaw28_built tags0 script1 with
   | (c14a, c14b) => (bif c14b then
       (bif decide (20 < (l2.length : Int)) then
         F8_crossroadslaw28_alive
       else
         (match F27_redist_Sweep c14a l2 with
          | (c28a, c28b) => (let c31 := F8_crossroadslaw28_alive
             (c31 && (let c34 := F29_crossroadslaw28_sane c14a
              (c34 && (let c38 := F29_crossroadslaw28_sane c28a
               (c38 && ((decide (1 ≤ c28b)) && (decide (c28b ≤ 64)))))))))))
     else
       F8_crossroadslaw28_alive))

def F7_crossroadslaw28_RedistTwice_l1 (script1 : List TAct) (c39a : TWorld) : (i18 : Nat) → List TBorder → Except Bool Unit
  | i18, [] => .ok ()
  | i18, x18 :: l18 => (bif decide ((i18 : Int) < (script1.length : Int)) then
        (match F17_redist_Tell c39a x18 ((script1.getD i18 default).P) with
         | (c119a, c119b, c119c) => (bif c119b then .error (false) else F7_crossroadslaw28_RedistTwice_l1 script1 c39a (i18 + 1) l18))
      else
        .ok ())
def F7_crossroadslaw28_RedistTwice_l2 (c25a : TWorld) : List TAct → Except Bool Unit
  | [] => .ok ()
  | x11 :: l11 => (match F17_redist_Tell c25a x11.B x11.P with
       | (c60a, c60b, c60c) => (match F17_redist_Tell c60a x11.B x11.P with
          | (c76a, c76b, c76c) => (bif decide (c60c = c76c) then
              (bif c76b then
                .error (false)
              else
                (let c89 := F26_redist_Same c60a c76a
                 (bif c89 then F7_crossroadslaw28_RedistTwice_l2 c25a l11 else .error (false))))
            else
              .error (false))))
/-- crossroads/crossroadslaw28.RedistTwice -/
def F7_crossroadslaw28_RedistTwice (tags0 : List Int) (script1 : List TAct) (l2 : List TBorder) : Bool :=
  (match F9_crossroadslaw28_built tags0 script1 with
   | (c25a, c25b) => (bif c25b then
       (bif decide (20 < (l2.length : Int)) then
         F8_crossroadslaw28_alive
       else
         (match F27_redist_Sweep c25a l2 with
          | (c39a, c39b) => (match F7_crossroadslaw28_RedistTwice_l2 c25a script1 with
            | .error r => r
            | .ok _ => 
              (bif decide (c39b < 64) then
                (match F7_crossroadslaw28_RedistTwice_l1 script1 c39a 0 l2 with
                | .error r => r
                | .ok _ => F8_crossroadslaw28_alive)
              else
                F8_crossroadslaw28_alive))))
     else
       F8_crossroadslaw28_alive))

end Go.Proofs.Ytlemcljcmfphcaa.Abs

/- The functions of the program as Lean functions (printed by this work's own program gen.py). -/
import Derived.Test.YtjcpkgnlnmajjaaGreatDoorP0
import Derived.Test.YtjcpkgnlnmajjaaGreatDoorA2
import Derived.Test.YtjcpkgnlnmajjaaGreatDoorP9
set_option linter.unusedVariables false
set_option maxRecDepth 100000
namespace Go.Proofs.YtjcpkgnlnmajjaaGreatDoor.Abs
open Go

structure TPrefix where
  A : Int
  N : Int
  deriving DecidableEq, Inhabited
structure TRule where
  Seq : Int
  Permit : Bool
  P : TPrefix
  Ge : Int
  Le : Int
  deriving DecidableEq, Inhabited

/-- crossroads/addr.isLong -/
def F67_addr_isLong (n0 : Int) : Bool :=
  ((decide (0 ≤ n0)) && (decide (n0 ≤ 32)))

/-- crossroads/addr.Mask -/
def F68_addr_Mask (n0 : Int) : Int :=
  IntKind.u32.wrap (shl_ .u64 4294967295 (IntKind.i64.wrap (32 - (min_ (max_ n0 0) 32))))

/-- crossroads/addr.May -/
def F37_addr_May (p0 : TPrefix) : Bool :=
  (let c5 := F67_addr_isLong p0.N
   (c5 && (let c11 := F68_addr_Mask p0.N
    decide (bit_andNot .u32 p0.A c11 = 0))))

/-- crossroads/plist.May -/
def F10_plist_May (x0 : TRule) : Bool :=
  (bif decide (x0.Seq < 1) then
    false
  else
    (bif decide (65535 < x0.Seq) then
      false
    else
      (let c16 := F37_addr_May x0.P
       (c16 && (bif decide (x0.Ge = 0) then
         ((decide (x0.Le = 0)) || ((decide (max_ x0.Ge x0.P.N ≤ x0.Le)) && (decide (x0.Le ≤ 32))))
       else
         ((decide (x0.P.N < x0.Ge)) && (bif decide (x0.Le = 0) then
           decide (x0.Ge ≤ 32)
         else
           ((decide (max_ x0.Ge x0.P.N ≤ x0.Le)) && ((decide (x0.Ge ≤ 32)) && (decide (x0.Le ≤ 32)))))))))))

/-- crossroads/plist.number -/
def F31_plist_number (s0 : ByteArray) : Option Int :=
  (bif (s0.toList == (bstr []).toList) then
    some 0
  else
    (bif decide (5 < (s0.size : Int)) then
      some 0
    else
      (bif decide ((0 : Int) < (s0.size : Int)) then
        (bif decide ((strAt s0 0) = 48) then
          some 0
        else
          ((match trimO s0 (bstr [48, 49, 50, 51, 52, 53, 54, 55, 56, 57]) with
           | none => none
           | some c19 => 
             (bif c19.toList == (bstr []).toList then
               ((match atoiO s0 with
                | none => none
                | some (c24a, c24b) => some c24a))
             else
               some 0))))
      else none)))

/-- crossroads/addr.number$1 -/
def F91_addr_number_1 (c0 : Int) : Bool :=
  ((decide (c0 < 48)) || (decide (57 < c0)))

/-- crossroads/addr.number -/
def F62_addr_number (s0 : ByteArray) (most1 : Int) : Option (Int × Bool) :=
  (bif (s0.toList == (bstr []).toList) then
    some (0, false)
  else
    (bif decide (3 < (s0.size : Int)) then
      some (0, false)
    else
      (bif decide (1 < (s0.size : Int)) then
        (bif decide ((0 : Int) < (s0.size : Int)) then
          (bif decide ((strAt s0 0) = 48) then
            some (0, false)
          else
            (let c29 := containsFuncS s0 (fun y0 => F91_addr_number_1 y0)
             (bif c29 then
               some (0, false)
             else
               ((match atoiO s0 with
                | none => none
                | some (c33a, c33b) => some (c33a, decide (c33a ≤ most1)))))))
        else none)
      else
        (let c29 := containsFuncS s0 (fun y0 => F91_addr_number_1 y0)
         (bif c29 then
           some (0, false)
         else
           ((match atoiO s0 with
            | none => none
            | some (c33a, c33b) => some (c33a, decide (c33a ≤ most1)))))))))

def F32_addr_Parse_l1  : (p10 : TPrefix) → List ByteArray → Option (Except (TPrefix × Int) TPrefix)
  | p10, [] => some (.ok p10)
  | p10, x44 :: l44 => ((match F62_addr_number x44 255 with
       | none => none
       | some (c50a, c50b) => 
         (bif c50b then
           F32_addr_Parse_l1 (⟨bit_or .u32 (IntKind.u32.wrap (p10.A * 2 ^ 8)) (IntKind.u32.wrap c50a), p10.N⟩ : TPrefix) l44
         else
           some (.error (((⟨0, 0⟩ : TPrefix), 3))))))
theorem F32_addr_Parse_l1_e : True := by
  have := @F32_addr_Parse_l1.eq_1
  trivial
/-- crossroads/addr.Parse -/
def F32_addr_Parse (s0 : ByteArray) : Option (TPrefix × Int) :=
  ((match cutO s0 (bstr [47]) with
   | none => none
   | some (c17a, c17b, c17c) => 
     ((match splitO c17a (bstr [46]) with
      | none => none
      | some c22 => 
        ((match F62_addr_number c17b 32 with
         | none => none
         | some (c25a, c25b) => 
           (bif c17c then
             (bif c25b then
               (bif decide ((c22.length : Int) = 4) then
                 (match F32_addr_Parse_l1 (⟨0, c25a⟩ : TPrefix) c22 with
                 | none => none
                 | some (.error r) => some r
                 | some (.ok p10) => 
                   (let c65 := F37_addr_May p10
                    (bif c65 then some (p10, 0) else some ((⟨0, 0⟩ : TPrefix), 1))))
               else
                 some ((⟨0, 0⟩ : TPrefix), 3))
             else
               some ((⟨0, 0⟩ : TPrefix), 3))
           else
             some ((⟨0, 0⟩ : TPrefix), 3))))))))

/-- (*crossroads/plist.Rule).limits -/
def F33_plist_Rule_limits (x0 : TRule) (l1 : List ByteArray) : Option (Bool × TRule) :=
  (bif decide ((l1.length : Int) < 2) then
    some (decide ((l1.length : Int) = 0), x0)
  else
    (match getI l1 0 with
    | none => none
    | some x903 => 
      (bif x903.toList == (bstr [103, 101]).toList then
        (match getI l1 1 with
        | none => none
        | some x910 => 
          ((match F31_plist_number x910 with
           | none => none
           | some c36 => 
             (bif decide (c36 = 0) then
               some (false, x0)
             else
               (bif decide ((2 : Int) ≤ (l1.length : Int)) then
                 (bif decide (((l1.drop 2).length : Int) < 2) then
                   some (decide (((l1.drop 2).length : Int) = 0), (⟨x0.Seq, x0.Permit, x0.P, c36, x0.Le⟩ : TRule))
                 else
                   (match getI (l1.drop 2) 0 with
                   | none => none
                   | some x915 => 
                     (bif x915.toList == (bstr [108, 101]).toList then
                       (match getI (l1.drop 2) 1 with
                       | none => none
                       | some x917 => 
                         ((match F31_plist_number x917 with
                          | none => none
                          | some c36x => 
                            (bif decide (c36x = 0) then
                              some (false, (⟨x0.Seq, x0.Permit, x0.P, c36, x0.Le⟩ : TRule))
                            else
                              (bif decide ((2 : Int) ≤ ((l1.drop 2).length : Int)) then
                                some (decide ((((l1.drop 2).drop 2).length : Int) = 0), (⟨x0.Seq, x0.Permit, x0.P, c36, c36x⟩ : TRule))
                              else none)))))
                     else
                       some (decide (((l1.drop 2).length : Int) = 0), (⟨x0.Seq, x0.Permit, x0.P, c36, x0.Le⟩ : TRule)))))
               else none)))))
      else
        (bif x903.toList == (bstr [108, 101]).toList then
          (match getI l1 1 with
          | none => none
          | some x907 => 
            ((match F31_plist_number x907 with
             | none => none
             | some c36 => 
               (bif decide (c36 = 0) then
                 some (false, x0)
               else
                 (bif decide ((2 : Int) ≤ (l1.length : Int)) then
                   some (decide (((l1.drop 2).length : Int) = 0), (⟨x0.Seq, x0.Permit, x0.P, x0.Ge, c36⟩ : TRule))
                 else none)))))
        else
          some (decide ((l1.length : Int) = 0), x0)))))

/-- crossroads/plist.Parse -/
def F8_plist_Parse (s0 : ByteArray) : Option (TRule × Int) :=
  ((match splitO s0 (bstr [32]) with
   | none => none
   | some c9 => 
     (bif decide ((c9.length : Int) < 3) then
       some ((⟨0, false, (⟨0, 0⟩ : TPrefix), 0, 0⟩ : TRule), 3)
     else
       (match getI c9 0 with
       | none => none
       | some x901 => 
         ((match F31_plist_number x901 with
          | none => none
          | some c17 => 
            (bif decide (c17 = 0) then
              some ((⟨0, false, (⟨0, 0⟩ : TPrefix), 0, 0⟩ : TRule), 3)
            else
              (match getI c9 1 with
              | none => none
              | some x903 => 
                (bif x903.toList == (bstr [112, 101, 114, 109, 105, 116]).toList then
                  (match getI c9 2 with
                  | none => none
                  | some x914 => 
                    ((match F32_addr_Parse x914 with
                     | none => none
                     | some (c37a, c37b) => 
                       ((bif decide (c37b = 3) then
                          some ((⟨0, false, (⟨0, 0⟩ : TPrefix), 0, 0⟩ : TRule), 3)
                        else
                          (bif decide ((3 : Int) ≤ (c9.length : Int)) then
                            ((match F33_plist_Rule_limits (⟨c17, (x903.toList == (bstr [112, 101, 114, 109, 105, 116]).toList), c37a, 0, 0⟩ : TRule) (c9.drop 3) with
                             | none => none
                             | some (c56a, c56b) => 
                               (bif c56a then
                                 (bif decide (c37b = 0) then
                                   (let c65 := F10_plist_May c56b
                                    (bif c65 then some (c56b, 0) else some ((⟨0, false, (⟨0, 0⟩ : TPrefix), 0, 0⟩ : TRule), 1)))
                                 else
                                   some ((⟨0, false, (⟨0, 0⟩ : TPrefix), 0, 0⟩ : TRule), 1))
                               else
                                 some ((⟨0, false, (⟨0, 0⟩ : TPrefix), 0, 0⟩ : TRule), 3))))
                          else none))))))
                else
                  (bif x903.toList == (bstr [100, 101, 110, 121]).toList then
                    (match getI c9 2 with
                    | none => none
                    | some x906 => 
                      ((match F32_addr_Parse x906 with
                       | none => none
                       | some (c37a, c37b) => 
                         ((bif decide (c37b = 3) then
                            some ((⟨0, false, (⟨0, 0⟩ : TPrefix), 0, 0⟩ : TRule), 3)
                          else
                            (bif decide ((3 : Int) ≤ (c9.length : Int)) then
                              ((match F33_plist_Rule_limits (⟨c17, (x903.toList == (bstr [112, 101, 114, 109, 105, 116]).toList), c37a, 0, 0⟩ : TRule) (c9.drop 3) with
                               | none => none
                               | some (c56a, c56b) => 
                                 (bif c56a then
                                   (bif decide (c37b = 0) then
                                     (let c65 := F10_plist_May c56b
                                      (bif c65 then some (c56b, 0) else some ((⟨0, false, (⟨0, 0⟩ : TPrefix), 0, 0⟩ : TRule), 1)))
                                   else
                                     some ((⟨0, false, (⟨0, 0⟩ : TPrefix), 0, 0⟩ : TRule), 1))
                                 else
                                   some ((⟨0, false, (⟨0, 0⟩ : TPrefix), 0, 0⟩ : TRule), 3))))
                            else none))))))
                  else
                    some ((⟨0, false, (⟨0, 0⟩ : TPrefix), 0, 0⟩ : TRule), 3)))))))))))

/-- crossroads/addr.Text -/
def F35_addr_Text (p0 : TPrefix) : Option ByteArray :=
  ((match itoaO (IntKind.i64.wrap (bit_and .u32 (Int.fdiv p0.A (2 ^ 24)) 255)) with
   | none => none
   | some c16 => 
     ((match itoaO (IntKind.i64.wrap (bit_and .u32 (Int.fdiv p0.A (2 ^ 16)) 255)) with
      | none => none
      | some c16x => 
        ((match itoaO (IntKind.i64.wrap (bit_and .u32 (Int.fdiv p0.A (2 ^ 8)) 255)) with
         | none => none
         | some c16xx => 
           (bif decide ((([c16] : List ByteArray) ++ ([c16x] : List ByteArray)).length < 1099511627776) then
             ((match itoaO (IntKind.i64.wrap (bit_and .u32 (Int.fdiv p0.A (2 ^ 0)) 255)) with
              | none => none
              | some c16xxx => 
                (bif decide (((([c16] : List ByteArray) ++ ([c16x] : List ByteArray)) ++ ([c16xx] : List ByteArray)).length < 1099511627776) then
                  ((match joinO (((([c16] : List ByteArray) ++ ([c16x] : List ByteArray)) ++ ([c16xx] : List ByteArray)) ++ ([c16xxx] : List ByteArray)) (bstr [46]) with
                   | none => none
                   | some c20 => 
                     (bif decide (c20.size + (bstr [47]).size ≤ 9223372036854775807) then
                       ((match itoaO p0.N with
                        | none => none
                        | some c24 => 
                          (bif decide ((c20 ++ (bstr [47])).size + c24.size ≤ 9223372036854775807) then
                            some ((c20 ++ (bstr [47])) ++ c24)
                          else none)))
                     else none)))
                else none)))
           else none)))))))

/-- crossroads/plist.Text -/
def F9_plist_Text (x0 : TRule) : Option ByteArray :=
  ((match itoaO x0.Seq with
   | none => none
   | some c6 => 
     ((match F35_addr_Text x0.P with
      | none => none
      | some c9 => 
        (bif x0.Permit then
          (match getI ([c6, (bstr [100, 101, 110, 121]), c9] : List ByteArray) 1 with
          | none => none
          | some x905 => 
            (bif decide (x0.Ge = 0) then
              (bif decide (x0.Le = 0) then
                joinO (([c6, (bstr [100, 101, 110, 121]), c9] : List ByteArray).set 1 (bstr [112, 101, 114, 109, 105, 116])) (bstr [32])
              else
                ((match itoaO x0.Le with
                 | none => none
                 | some c30 => 
                   (bif decide ((([c6, (bstr [100, 101, 110, 121]), c9] : List ByteArray).set 1 (bstr [112, 101, 114, 109, 105, 116])).length < 1099511627776) then
                     joinO ((([c6, (bstr [100, 101, 110, 121]), c9] : List ByteArray).set 1 (bstr [112, 101, 114, 109, 105, 116])) ++ ([(bstr [108, 101]), c30] : List ByteArray)) (bstr [32])
                   else none))))
            else
              ((match itoaO x0.Ge with
               | none => none
               | some c21 => 
                 (bif decide ((([c6, (bstr [100, 101, 110, 121]), c9] : List ByteArray).set 1 (bstr [112, 101, 114, 109, 105, 116])).length < 1099511627776) then
                   (bif decide (x0.Le = 0) then
                     joinO ((([c6, (bstr [100, 101, 110, 121]), c9] : List ByteArray).set 1 (bstr [112, 101, 114, 109, 105, 116])) ++ ([(bstr [103, 101]), c21] : List ByteArray)) (bstr [32])
                   else
                     ((match itoaO x0.Le with
                      | none => none
                      | some c30 => 
                        (bif decide (((([c6, (bstr [100, 101, 110, 121]), c9] : List ByteArray).set 1 (bstr [112, 101, 114, 109, 105, 116])) ++ ([(bstr [103, 101]), c21] : List ByteArray)).length < 1099511627776) then
                          joinO (((([c6, (bstr [100, 101, 110, 121]), c9] : List ByteArray).set 1 (bstr [112, 101, 114, 109, 105, 116])) ++ ([(bstr [103, 101]), c21] : List ByteArray)) ++ ([(bstr [108, 101]), c30] : List ByteArray)) (bstr [32])
                        else none))))
                 else none)))))
        else
          (bif decide (x0.Ge = 0) then
            (bif decide (x0.Le = 0) then
              joinO ([c6, (bstr [100, 101, 110, 121]), c9] : List ByteArray) (bstr [32])
            else
              ((match itoaO x0.Le with
               | none => none
               | some c30 => joinO (([c6, (bstr [100, 101, 110, 121]), c9] : List ByteArray) ++ ([(bstr [108, 101]), c30] : List ByteArray)) (bstr [32]))))
          else
            ((match itoaO x0.Ge with
             | none => none
             | some c21 => 
               (bif decide (x0.Le = 0) then
                 joinO (([c6, (bstr [100, 101, 110, 121]), c9] : List ByteArray) ++ ([(bstr [103, 101]), c21] : List ByteArray)) (bstr [32])
               else
                 ((match itoaO x0.Le with
                  | none => none
                  | some c30 => 
                    (bif decide ((([c6, (bstr [100, 101, 110, 121]), c9] : List ByteArray) ++ ([(bstr [103, 101]), c21] : List ByteArray)).length < 1099511627776) then
                      joinO ((([c6, (bstr [100, 101, 110, 121]), c9] : List ByteArray) ++ ([(bstr [103, 101]), c21] : List ByteArray)) ++ ([(bstr [108, 101]), c30] : List ByteArray)) (bstr [32])
                    else none))))))))))))

/-- (crossroads/plist.Rule).bounds -/
def F39_plist_Rule_bounds (x0 : TRule) : Int × Int :=
  (bif decide (x0.Ge = 0) then
    (bif decide (x0.Le = 0) then (x0.P.N, x0.P.N) else (x0.P.N, x0.Le))
  else
    (bif decide (x0.Le = 0) then (x0.Ge, 32) else (x0.Ge, x0.Le)))

/-- crossroads/addr.Has -/
def F70_addr_Has (p0 : TPrefix) (a1 : Int) : Bool :=
  (let c6 := F37_addr_May p0
   (c6 && (let c11 := F68_addr_Mask p0.N
    decide (bit_and .u32 a1 c11 = p0.A))))

/-- crossroads/addr.Covers -/
def F40_addr_Covers (p0 : TPrefix) (q1 : TPrefix) : Bool :=
  (let c6 := F37_addr_May q1
   (c6 && ((decide (p0.N ≤ q1.N)) && (F70_addr_Has p0 q1.A))))

/-- crossroads/plist.Means -/
def F14_plist_Means (x0 : TRule) (q1 : TPrefix) : Bool :=
  (match F39_plist_Rule_bounds x0 with
   | (c9a, c9b) => (let c13 := F10_plist_May x0
      (c13 && (let c18 := F40_addr_Covers x0.P q1
       (c18 && ((decide (c9a ≤ q1.N)) && (decide (q1.N ≤ c9b))))))))

/-- crossroads/crossroadslaw07.alive -/
def F11_crossroadslaw07_alive : Option Bool :=
  ((match F8_plist_Parse (bstr [53, 32, 112, 101, 114, 109, 105, 116, 32, 49, 48, 46, 48, 46, 48, 46, 48, 47, 56, 32, 108, 101, 32, 50, 52]) with
   | none => none
   | some (c4a, c4b) => 
     (bif decide (c4b = 0) then
       (let c12 := F14_plist_Means c4a (⟨167837696, 16⟩ : TPrefix)
        (bif c12 then
          (let c17 := F14_plist_Means c4a (⟨167837952, 25⟩ : TPrefix)
           (bif c17 then
             some false
           else
             ((match F9_plist_Text c4a with
              | none => none
              | some c22 => some (c22.toList == (bstr [53, 32, 112, 101, 114, 109, 105, 116, 32, 49, 48, 46, 48, 46, 48, 46, 48, 47, 56, 32, 108, 101, 32, 50, 52]).toList)))))
        else
          some false))
     else
       some false)))

/-- crossroads/crossroadsref03.Bit -/
def F69_crossroadsref03_Bit (a0 : Int) (i1 : Int) : Int :=
  (bif decide (i1 < 0) then
    0
  else
    (bif decide (31 < i1) then
      0
    else
      IntKind.i64.wrap (bit_and .u32 (shr_ .u32 a0 (IntKind.u64.wrap (IntKind.i64.wrap (31 - i1)))) 1)))

def F38_crossroadsref03_May_l1 (p0 : TPrefix) (fuel3 : Nat) (i3 : Int) : Except Bool Unit :=
  bif decide (i3 < 32) then
    match fuel3 with
    | 0 => .ok ()
    | fuel3 + 1 => (let c21 := F69_crossroadsref03_Bit p0.A i3
         (bif decide (c21 = 1) then .error (false) else F38_crossroadsref03_May_l1 p0 fuel3 (IntKind.i64.wrap (i3 + 1))))
  else .ok ()
/-- crossroads/crossroadsref03.May -/
def F38_crossroadsref03_May (p0 : TPrefix) : Bool :=
  (bif decide (p0.N < 0) then
    false
  else
    (bif decide (32 < p0.N) then
      false
    else
      (match F38_crossroadsref03_May_l1 p0 (fuelUp p0.N 32) p0.N with
      | .error r => r
      | .ok _ => true)))

/-- crossroads/crossroadsref07.May -/
def F12_crossroadsref07_May (x0 : TRule) : Bool :=
  (bif decide (x0.Seq < 1) then
    false
  else
    (bif decide (65535 < x0.Seq) then
      false
    else
      (let c14 := F38_crossroadsref03_May x0.P
       (c14 && (bif decide (x0.Ge = 0) then
         ((decide (x0.Le = 0)) || ((decide (x0.Ge ≤ x0.Le)) && ((decide (x0.P.N ≤ x0.Le)) && (decide (x0.Le ≤ 32)))))
       else
         (bif decide (x0.Ge ≤ x0.P.N) then
           false
         else
           (bif decide (32 < x0.Ge) then
             false
           else
             ((decide (x0.Le = 0)) || ((decide (x0.Ge ≤ x0.Le)) && ((decide (x0.P.N ≤ x0.Le)) && (decide (x0.Le ≤ 32))))))))))))

/-- crossroads/crossroadslaw07.plain -/
def F13_crossroadslaw07_plain (x0 : TRule) : TRule :=
  x0

/-- crossroads/crossroadsref07.Bounds -/
def F41_crossroadsref07_Bounds (x0 : TRule) : Int × Int :=
  (bif decide (x0.Ge = 0) then
    (bif decide (x0.Le = 0) then (x0.P.N, x0.P.N) else (x0.P.N, x0.Le))
  else
    (bif decide (x0.Le = 0) then (x0.Ge, 32) else (x0.Ge, x0.Le)))

def F71_crossroadsref03_Has_l1 (p0 : TPrefix) (a1 : Int) (fuel5 : Nat) (i5 : Int) : Except Bool Unit :=
  bif decide (i5 < p0.N) then
    match fuel5 with
    | 0 => .ok ()
    | fuel5 + 1 => (let c18 := F69_crossroadsref03_Bit p0.A i5
         (let c21 := F69_crossroadsref03_Bit a1 i5
          (bif decide (c18 = c21) then F71_crossroadsref03_Has_l1 p0 a1 fuel5 (IntKind.i64.wrap (i5 + 1)) else .error (false))))
  else .ok ()
/-- crossroads/crossroadsref03.Has -/
def F71_crossroadsref03_Has (p0 : TPrefix) (a1 : Int) : Bool :=
  (let c7 := F38_crossroadsref03_May p0
   (c7 && (match F71_crossroadsref03_Has_l1 p0 a1 (fuelUp 0 p0.N) 0 with
   | .error r => r
   | .ok _ => true)))

/-- crossroads/crossroadsref03.Covers -/
def F42_crossroadsref03_Covers (p0 : TPrefix) (q1 : TPrefix) : Bool :=
  (let c6 := F38_crossroadsref03_May p0
   (c6 && (let c9 := F38_crossroadsref03_May q1
    (c9 && ((decide (p0.N ≤ q1.N)) && (F71_crossroadsref03_Has p0 q1.A))))))

/-- crossroads/crossroadsref07.Means -/
def F15_crossroadsref07_Means (x0 : TRule) (q1 : TPrefix) : Bool :=
  (match F41_crossroadsref07_Bounds x0 with
   | (c9a, c9b) => (let c13 := F12_crossroadsref07_May x0
      (c13 && (let c18 := F42_crossroadsref03_Covers x0.P q1
       (c18 && ((decide (c9a ≤ q1.N)) && (decide (q1.N ≤ c9b))))))))

def F43_crossroadsref07_Decimal_l1  (fuel0 : Nat) (u4 : Int) (s5 : ByteArray) : Option (Int × ByteArray) :=
  match fuel0 with
  | 0 => none
  | fuel0 + 1 => (bif decide (10 ≤ u4) then
        (bif decide ((strNums ([IntKind.u8.wrap (IntKind.u64.wrap (48 + (Int.tmod (IntKind.u64.wrap (Int.tdiv u4 10)) 10)))] : List Int)).size + s5.size ≤ 9223372036854775807) then
          F43_crossroadsref07_Decimal_l1 fuel0 (IntKind.u64.wrap (Int.tdiv u4 10)) ((strNums ([IntKind.u8.wrap (IntKind.u64.wrap (48 + (Int.tmod (IntKind.u64.wrap (Int.tdiv u4 10)) 10)))] : List Int)) ++ s5)
        else none)
      else
        some (u4, s5))
/-- crossroads/crossroadsref07.Decimal -/
def F43_crossroadsref07_Decimal (n0 : Int) : Option ByteArray :=
  (bif decide (n0 < 0) then
    (match F43_crossroadsref07_Decimal_l1 100 (IntKind.u64.wrap (-(IntKind.u64.wrap n0))) (strNums ([IntKind.u8.wrap (IntKind.u64.wrap (48 + (Int.tmod (IntKind.u64.wrap (-(IntKind.u64.wrap n0))) 10)))] : List Int)) with
    | none => none
    | some (u4, s5) => 
      (bif decide ((bstr [45]).size + s5.size ≤ 9223372036854775807) then
        some ((bstr [45]) ++ s5)
      else none))
  else
    (match F43_crossroadsref07_Decimal_l1 100 (IntKind.u64.wrap n0) (strNums ([IntKind.u8.wrap (IntKind.u64.wrap (48 + (Int.tmod (IntKind.u64.wrap n0) 10)))] : List Int)) with
    | none => none
    | some (u4, s5) => some s5))

def F72_crossroadsref03_decimal_l1  (fuel0 : Nat) (u4 : Int) (s5 : ByteArray) : Option (Int × ByteArray) :=
  match fuel0 with
  | 0 => none
  | fuel0 + 1 => (bif decide (10 ≤ u4) then
        (bif decide ((strNums ([IntKind.u8.wrap (IntKind.u64.wrap (48 + (Int.tmod (IntKind.u64.wrap (Int.tdiv u4 10)) 10)))] : List Int)).size + s5.size ≤ 9223372036854775807) then
          F72_crossroadsref03_decimal_l1 fuel0 (IntKind.u64.wrap (Int.tdiv u4 10)) ((strNums ([IntKind.u8.wrap (IntKind.u64.wrap (48 + (Int.tmod (IntKind.u64.wrap (Int.tdiv u4 10)) 10)))] : List Int)) ++ s5)
        else none)
      else
        some (u4, s5))
/-- crossroads/crossroadsref03.decimal -/
def F72_crossroadsref03_decimal (n0 : Int) : Option ByteArray :=
  (bif decide (n0 < 0) then
    (match F72_crossroadsref03_decimal_l1 100 (IntKind.u64.wrap (-(IntKind.u64.wrap n0))) (strNums ([IntKind.u8.wrap (IntKind.u64.wrap (48 + (Int.tmod (IntKind.u64.wrap (-(IntKind.u64.wrap n0))) 10)))] : List Int)) with
    | none => none
    | some (u4, s5) => 
      (bif decide ((bstr [45]).size + s5.size ≤ 9223372036854775807) then
        some ((bstr [45]) ++ s5)
      else none))
  else
    (match F72_crossroadsref03_decimal_l1 100 (IntKind.u64.wrap n0) (strNums ([IntKind.u8.wrap (IntKind.u64.wrap (48 + (Int.tmod (IntKind.u64.wrap n0) 10)))] : List Int)) with
    | none => none
    | some (u4, s5) => some s5))

def F44_crossroadsref03_Text_l1 (p0 : TPrefix) (fuel0 : Nat) (s3 : ByteArray) (i4 : Int) : Option (ByteArray × Int) :=
  match fuel0 with
  | 0 => none
  | fuel0 + 1 => (bif decide (i4 < 4) then
        (bif decide (0 < i4) then
          (bif decide (s3.size + (bstr [46]).size ≤ 9223372036854775807) then
            ((match F72_crossroadsref03_decimal (IntKind.i64.wrap (bit_and .u32 (shr_ .u32 p0.A (IntKind.u64.wrap (IntKind.i64.wrap (24 - (IntKind.i64.wrap (8 * i4)))))) 255)) with
             | none => none
             | some c23 => 
               (bif decide ((s3 ++ (bstr [46])).size + c23.size ≤ 9223372036854775807) then
                 F44_crossroadsref03_Text_l1 p0 fuel0 ((s3 ++ (bstr [46])) ++ c23) (IntKind.i64.wrap (i4 + 1))
               else none)))
          else none)
        else
          ((match F72_crossroadsref03_decimal (IntKind.i64.wrap (bit_and .u32 (shr_ .u32 p0.A (IntKind.u64.wrap (IntKind.i64.wrap (24 - (IntKind.i64.wrap (8 * i4)))))) 255)) with
           | none => none
           | some c23 => 
             (bif decide (s3.size + c23.size ≤ 9223372036854775807) then
               F44_crossroadsref03_Text_l1 p0 fuel0 (s3 ++ c23) (IntKind.i64.wrap (i4 + 1))
             else none))))
      else
        some (s3, i4))
/-- crossroads/crossroadsref03.Text -/
def F44_crossroadsref03_Text (p0 : TPrefix) : Option ByteArray :=
  (match F44_crossroadsref03_Text_l1 p0 100 (bstr []) 0 with
  | none => none
  | some (s3, i4) => 
    (bif decide (s3.size + (bstr [47]).size ≤ 9223372036854775807) then
      ((match F72_crossroadsref03_decimal p0.N with
       | none => none
       | some c29 => 
         (bif decide ((s3 ++ (bstr [47])).size + c29.size ≤ 9223372036854775807) then
           some ((s3 ++ (bstr [47])) ++ c29)
         else none)))
    else none))

/-- crossroads/crossroadsref07.Text -/
def F16_crossroadsref07_Text (x0 : TRule) : Option ByteArray :=
  ((match F43_crossroadsref07_Decimal x0.Seq with
   | none => none
   | some c6 => 
     (bif decide (c6.size + (bstr [32, 100, 101, 110, 121, 32]).size ≤ 9223372036854775807) then
       (bif x0.Permit then
         ((bif decide (c6.size + (bstr [32, 112, 101, 114, 109, 105, 116, 32]).size ≤ 9223372036854775807) then
            ((match F44_crossroadsref03_Text x0.P with
             | none => none
             | some c17 => 
               (bif decide ((c6 ++ (bstr [32, 112, 101, 114, 109, 105, 116, 32])).size + c17.size ≤ 9223372036854775807) then
                 (bif decide (x0.Ge = 0) then
                   (bif decide (x0.Le = 0) then
                     some ((c6 ++ (bstr [32, 112, 101, 114, 109, 105, 116, 32])) ++ c17)
                   else
                     (bif decide (((c6 ++ (bstr [32, 112, 101, 114, 109, 105, 116, 32])) ++ c17).size + (bstr [32, 108, 101, 32]).size ≤ 9223372036854775807) then
                       ((match F43_crossroadsref07_Decimal x0.Le with
                        | none => none
                        | some c35 => 
                          (bif decide ((((c6 ++ (bstr [32, 112, 101, 114, 109, 105, 116, 32])) ++ c17) ++ (bstr [32, 108, 101, 32])).size + c35.size ≤ 9223372036854775807) then
                            some ((((c6 ++ (bstr [32, 112, 101, 114, 109, 105, 116, 32])) ++ c17) ++ (bstr [32, 108, 101, 32])) ++ c35)
                          else none)))
                     else none))
                 else
                   (bif decide (((c6 ++ (bstr [32, 112, 101, 114, 109, 105, 116, 32])) ++ c17).size + (bstr [32, 103, 101, 32]).size ≤ 9223372036854775807) then
                     ((match F43_crossroadsref07_Decimal x0.Ge with
                      | none => none
                      | some c26 => 
                        (bif decide ((((c6 ++ (bstr [32, 112, 101, 114, 109, 105, 116, 32])) ++ c17) ++ (bstr [32, 103, 101, 32])).size + c26.size ≤ 9223372036854775807) then
                          (bif decide (x0.Le = 0) then
                            some ((((c6 ++ (bstr [32, 112, 101, 114, 109, 105, 116, 32])) ++ c17) ++ (bstr [32, 103, 101, 32])) ++ c26)
                          else
                            (bif decide (((((c6 ++ (bstr [32, 112, 101, 114, 109, 105, 116, 32])) ++ c17) ++ (bstr [32, 103, 101, 32])) ++ c26).size + (bstr [32, 108, 101, 32]).size ≤ 9223372036854775807) then
                              ((match F43_crossroadsref07_Decimal x0.Le with
                               | none => none
                               | some c35 => 
                                 (bif decide ((((((c6 ++ (bstr [32, 112, 101, 114, 109, 105, 116, 32])) ++ c17) ++ (bstr [32, 103, 101, 32])) ++ c26) ++ (bstr [32, 108, 101, 32])).size + c35.size ≤ 9223372036854775807) then
                                   some ((((((c6 ++ (bstr [32, 112, 101, 114, 109, 105, 116, 32])) ++ c17) ++ (bstr [32, 103, 101, 32])) ++ c26) ++ (bstr [32, 108, 101, 32])) ++ c35)
                                 else none)))
                            else none))
                        else none)))
                   else none))
               else none)))
          else none))
       else
         ((match F44_crossroadsref03_Text x0.P with
          | none => none
          | some c17 => 
            (bif decide ((c6 ++ (bstr [32, 100, 101, 110, 121, 32])).size + c17.size ≤ 9223372036854775807) then
              (bif decide (x0.Ge = 0) then
                (bif decide (x0.Le = 0) then
                  some ((c6 ++ (bstr [32, 100, 101, 110, 121, 32])) ++ c17)
                else
                  (bif decide (((c6 ++ (bstr [32, 100, 101, 110, 121, 32])) ++ c17).size + (bstr [32, 108, 101, 32]).size ≤ 9223372036854775807) then
                    ((match F43_crossroadsref07_Decimal x0.Le with
                     | none => none
                     | some c35 => 
                       (bif decide ((((c6 ++ (bstr [32, 100, 101, 110, 121, 32])) ++ c17) ++ (bstr [32, 108, 101, 32])).size + c35.size ≤ 9223372036854775807) then
                         some ((((c6 ++ (bstr [32, 100, 101, 110, 121, 32])) ++ c17) ++ (bstr [32, 108, 101, 32])) ++ c35)
                       else none)))
                  else none))
              else
                (bif decide (((c6 ++ (bstr [32, 100, 101, 110, 121, 32])) ++ c17).size + (bstr [32, 103, 101, 32]).size ≤ 9223372036854775807) then
                  ((match F43_crossroadsref07_Decimal x0.Ge with
                   | none => none
                   | some c26 => 
                     (bif decide ((((c6 ++ (bstr [32, 100, 101, 110, 121, 32])) ++ c17) ++ (bstr [32, 103, 101, 32])).size + c26.size ≤ 9223372036854775807) then
                       (bif decide (x0.Le = 0) then
                         some ((((c6 ++ (bstr [32, 100, 101, 110, 121, 32])) ++ c17) ++ (bstr [32, 103, 101, 32])) ++ c26)
                       else
                         (bif decide (((((c6 ++ (bstr [32, 100, 101, 110, 121, 32])) ++ c17) ++ (bstr [32, 103, 101, 32])) ++ c26).size + (bstr [32, 108, 101, 32]).size ≤ 9223372036854775807) then
                           ((match F43_crossroadsref07_Decimal x0.Le with
                            | none => none
                            | some c35 => 
                              (bif decide ((((((c6 ++ (bstr [32, 100, 101, 110, 121, 32])) ++ c17) ++ (bstr [32, 103, 101, 32])) ++ c26) ++ (bstr [32, 108, 101, 32])).size + c35.size ≤ 9223372036854775807) then
                                some ((((((c6 ++ (bstr [32, 100, 101, 110, 121, 32])) ++ c17) ++ (bstr [32, 103, 101, 32])) ++ c26) ++ (bstr [32, 108, 101, 32])) ++ c35)
                              else none)))
                         else none))
                     else none)))
                else none))
            else none))))
     else none)))

/-- crossroads/crossroadslaw07.PlistRule -/
def F3_crossroadslaw07_PlistRule (x0 : TRule) (q1 : TPrefix) : Option Bool :=
  ((match F9_plist_Text x0 with
   | none => none
   | some c9 => 
     ((match F8_plist_Parse c9 with
      | none => none
      | some (c10a, c10b) => 
        (let c14 := F10_plist_May x0
         (bif c14 == (decide (c10b = 0)) then
           (bif decide (c10b = 0) then
             (bif decide (c10a.Seq = x0.Seq) && ((c10a.Permit == x0.Permit) && (decide (c10a.P.A = x0.P.A) && (decide (c10a.P.N = x0.P.N) && (decide (c10a.Ge = x0.Ge) && (decide (c10a.Le = x0.Le) && true))))) then
               ((match F11_crossroadslaw07_alive with
                | none => none
                | some c27 => 
                  (bif c27 then
                    ((let c32 := F13_crossroadslaw07_plain x0
                      (let c33 := F12_crossroadsref07_May c32
                       (bif (c14 == c33) then
                         (let c39 := F14_plist_Means x0 q1
                          ((let c43 := F15_crossroadsref07_Means c32 q1
                            (bif (c39 == c43) then
                              ((((match F16_crossroadsref07_Text c32 with
                                 | none => none
                                 | some c51 => some (c9.toList == c51.toList)))))
                            else
                              some false))))
                       else
                         some false))))
                  else
                    some false)))
             else
               some false)
           else
             ((match F11_crossroadslaw07_alive with
              | none => none
              | some c27 => 
                (bif c27 then
                  ((let c32 := F13_crossroadslaw07_plain x0
                    (let c33 := F12_crossroadsref07_May c32
                     (bif (c14 == c33) then
                       (let c39 := F14_plist_Means x0 q1
                        ((let c43 := F15_crossroadsref07_Means c32 q1
                          (bif (c39 == c43) then
                            ((((match F16_crossroadsref07_Text c32 with
                               | none => none
                               | some c51 => some (c9.toList == c51.toList)))))
                          else
                            some false))))
                     else
                       some false))))
                else
                  some false))))
         else
           some false))))))

def F45_crossroadsref07_Words_l1 (s0 : ByteArray) (fuel0 : Nat) (i4 : Int) (l3 : List ByteArray) : Option (Int × (List ByteArray)) :=
  match fuel0 with
  | 0 => none
  | fuel0 + 1 => (bif decide (i4 < (s0.size : Int)) then
        (bif decide ((0 : Int) ≤ i4) then
          (bif decide ((strAt s0 i4) = 32) then
            (bif decide (l3.length < 1099511627776) then
              F45_crossroadsref07_Words_l1 s0 fuel0 (IntKind.i64.wrap (i4 + 1)) (l3 ++ ([(bstr [])] : List ByteArray))
            else none)
          else
            (match getI l3 (IntKind.i64.wrap ((l3.length : Int) - 1)) with
            | none => none
            | some x912 => 
              (bif decide (i4 ≤ IntKind.i64.wrap (i4 + 1)) then
                (bif decide (IntKind.i64.wrap (i4 + 1) ≤ (s0.size : Int)) then
                  (bif decide (x912.size + (s0.extract i4.toNat (IntKind.i64.wrap (i4 + 1)).toNat).size ≤ 9223372036854775807) then
                    F45_crossroadsref07_Words_l1 s0 fuel0 (IntKind.i64.wrap (i4 + 1)) (l3.set (IntKind.i64.wrap ((l3.length : Int) - 1)).toNat (x912 ++ (s0.extract i4.toNat (IntKind.i64.wrap (i4 + 1)).toNat)))
                  else none)
                else none)
              else none)))
        else none)
      else
        some (i4, l3))
/-- crossroads/crossroadsref07.Words -/
def F45_crossroadsref07_Words (s0 : ByteArray) : Option (List ByteArray) :=
  (match F45_crossroadsref07_Words_l1 s0 200 0 ([(bstr [])] : List ByteArray) with
  | none => none
  | some (i4, l3) => some l3)

def F46_crossroadsref07_Number_l1 (s0 : ByteArray) (fuel0 : Nat) (n3 : Int) (i4 : Int) : Option (Except Int (Int × Int)) :=
  match fuel0 with
  | 0 => none
  | fuel0 + 1 => (bif decide (i4 < (s0.size : Int)) then
        (bif decide ((0 : Int) ≤ i4) then
          (bif decide ((strAt s0 i4) < 48) then
            some (.error (0))
          else
            (bif decide (57 < (strAt s0 i4)) then
              some (.error (0))
            else
              (bif decide (i4 = 0) then
                (bif decide ((strAt s0 i4) = 48) then
                  some (.error (0))
                else
                  (bif decide (4 < i4) then
                    some (.error (0))
                  else
                    F46_crossroadsref07_Number_l1 s0 fuel0 (IntKind.i64.wrap ((IntKind.i64.wrap (n3 * 10)) + (IntKind.i64.wrap (IntKind.u8.wrap ((strAt s0 i4) - 48))))) (IntKind.i64.wrap (i4 + 1))))
              else
                (bif decide (4 < i4) then
                  some (.error (0))
                else
                  F46_crossroadsref07_Number_l1 s0 fuel0 (IntKind.i64.wrap ((IntKind.i64.wrap (n3 * 10)) + (IntKind.i64.wrap (IntKind.u8.wrap ((strAt s0 i4) - 48))))) (IntKind.i64.wrap (i4 + 1))))))
        else none)
      else
        some (.ok (n3, i4)))
/-- crossroads/crossroadsref07.Number -/
def F46_crossroadsref07_Number (s0 : ByteArray) : Option Int :=
  (match F46_crossroadsref07_Number_l1 s0 100 0 0 with
  | none => none
  | some (.error r) => some r
  | some (.ok (n3, i4)) => some n3)

def F73_crossroadsref03_number_l1 (s0 : ByteArray) (fuel0 : Nat) (n6 : Int) (k7 : Int) : Option (Int × Int) :=
  match fuel0 with
  | 0 => none
  | fuel0 + 1 => (bif decide (k7 < (s0.size : Int)) then
        (bif decide ((0 : Int) ≤ k7) then
          (bif decide (48 ≤ (strAt s0 k7)) then
            (bif decide ((strAt s0 k7) ≤ 57) then
              (bif decide (k7 < 4) then
                F73_crossroadsref03_number_l1 s0 fuel0 (IntKind.i64.wrap ((IntKind.i64.wrap (n6 * 10)) + (IntKind.i64.wrap (IntKind.u8.wrap ((strAt s0 k7) - 48))))) (IntKind.i64.wrap (k7 + 1))
              else
                some (n6, k7))
            else
              some (n6, k7))
          else
            some (n6, k7))
        else none)
      else
        some (n6, k7))
/-- crossroads/crossroadsref03.number -/
def F73_crossroadsref03_number (s0 : ByteArray) (most1 : Int) : Option (Int × Int) :=
  (match F73_crossroadsref03_number_l1 s0 100 0 0 with
  | none => none
  | some (n6, k7) => 
    (bif decide (k7 = 0) then
      some (0, 0)
    else
      (bif decide (1 < k7) then
        (bif decide ((0 : Int) < (s0.size : Int)) then
          (bif decide ((strAt s0 0) = 48) then some (0, 0) else (bif decide (most1 < n6) then some (0, 0) else some (n6, k7)))
        else none)
      else
        (bif decide (most1 < n6) then some (0, 0) else some (n6, k7)))))

def F47_crossroadsref03_Parse_l1  (fuel0 : Nat) (s0x : ByteArray) (a4 : Int) (i5 : Int) : Option (Except (TPrefix × Int) (ByteArray × Int × Int)) :=
  match fuel0 with
  | 0 => none
  | fuel0 + 1 => (bif decide (i5 < 4) then
        ((match F73_crossroadsref03_number s0x 255 with
         | none => none
         | some (c18a, c18b) => 
           (bif decide (i5 = 3) then
             (bif decide (c18b = 0) then
               some (.error (((⟨0, 0⟩ : TPrefix), 3)))
             else
               (bif decide ((s0x.size : Int) ≤ c18b) then
                 some (.error (((⟨0, 0⟩ : TPrefix), 3)))
               else
                 (bif decide ((0 : Int) ≤ c18b) then
                   (bif decide (c18b < (s0x.size : Int)) then
                     (bif decide ((strAt s0x c18b) = 47) then
                       (bif decide ((0 : Int) ≤ IntKind.i64.wrap (c18b + 1)) then
                         (bif decide (IntKind.i64.wrap (c18b + 1) ≤ (s0x.size : Int)) then
                           F47_crossroadsref03_Parse_l1 fuel0 (s0x.extract (IntKind.i64.wrap (c18b + 1)).toNat s0x.size) (IntKind.u32.wrap ((IntKind.u32.wrap (a4 * 256)) + (IntKind.u32.wrap c18a))) (IntKind.i64.wrap (i5 + 1))
                         else none)
                       else none)
                     else
                       some (.error (((⟨0, 0⟩ : TPrefix), 3))))
                   else none)
                 else none)))
           else
             (bif decide (c18b = 0) then
               some (.error (((⟨0, 0⟩ : TPrefix), 3)))
             else
               (bif decide ((s0x.size : Int) ≤ c18b) then
                 some (.error (((⟨0, 0⟩ : TPrefix), 3)))
               else
                 (bif decide ((0 : Int) ≤ c18b) then
                   (bif decide (c18b < (s0x.size : Int)) then
                     (bif decide ((strAt s0x c18b) = 46) then
                       (bif decide ((0 : Int) ≤ IntKind.i64.wrap (c18b + 1)) then
                         (bif decide (IntKind.i64.wrap (c18b + 1) ≤ (s0x.size : Int)) then
                           F47_crossroadsref03_Parse_l1 fuel0 (s0x.extract (IntKind.i64.wrap (c18b + 1)).toNat s0x.size) (IntKind.u32.wrap ((IntKind.u32.wrap (a4 * 256)) + (IntKind.u32.wrap c18a))) (IntKind.i64.wrap (i5 + 1))
                         else none)
                       else none)
                     else
                       some (.error (((⟨0, 0⟩ : TPrefix), 3))))
                   else none)
                 else none))))))
      else
        some (.ok (s0x, a4, i5)))
/-- crossroads/crossroadsref03.Parse -/
def F47_crossroadsref03_Parse (s0 : ByteArray) : Option (TPrefix × Int) :=
  (match F47_crossroadsref03_Parse_l1 100 s0 0 0 with
  | none => none
  | some (.error r) => some r
  | some (.ok (s0x, a4, i5)) => 
    ((match F73_crossroadsref03_number s0x 32 with
     | none => none
     | some (c50a, c50b) => 
       (bif decide (c50b = 0) then
         some ((⟨0, 0⟩ : TPrefix), 3)
       else
         (bif decide (c50b = (s0x.size : Int)) then
           (let c66 := F38_crossroadsref03_May (⟨a4, c50a⟩ : TPrefix)
            (bif c66 then some ((⟨a4, c50a⟩ : TPrefix), 0) else some ((⟨0, 0⟩ : TPrefix), 1)))
         else
           some ((⟨0, 0⟩ : TPrefix), 3))))))

def F17_crossroadsref07_Parse_l1 (c15 : List ByteArray) (fuel0 : Nat) (i8 : Int) (x5 : TRule) : Option (Except (TRule × Int) (Int × TRule)) :=
  match fuel0 with
  | 0 => none
  | fuel0 + 1 => (bif decide (i8 < (c15.length : Int)) then
        (match getI c15 (IntKind.i64.wrap (i8 + 1)) with
        | none => none
        | some x927 => 
          ((match F46_crossroadsref07_Number x927 with
           | none => none
           | some c82 => 
             (bif decide (c82 = 0) then
               some (.error (((⟨0, false, (⟨0, 0⟩ : TPrefix), 0, 0⟩ : TRule), 3)))
             else
               (match getI c15 i8 with
               | none => none
               | some x929 => 
                 (bif (x929.toList == (bstr [103, 101]).toList) then
                   (bif decide (i8 = 3) then
                     F17_crossroadsref07_Parse_l1 c15 fuel0 (IntKind.i64.wrap (i8 + 2)) (⟨x5.Seq, x5.Permit, x5.P, c82, x5.Le⟩ : TRule)
                   else
                     (bif (x929.toList == (bstr [108, 101]).toList) then
                       (bif decide (i8 = IntKind.i64.wrap ((c15.length : Int) - 2)) then
                         F17_crossroadsref07_Parse_l1 c15 fuel0 (IntKind.i64.wrap (i8 + 2)) (⟨x5.Seq, x5.Permit, x5.P, x5.Ge, c82⟩ : TRule)
                       else
                         some (.error (((⟨0, false, (⟨0, 0⟩ : TPrefix), 0, 0⟩ : TRule), 3))))
                     else
                       some (.error (((⟨0, false, (⟨0, 0⟩ : TPrefix), 0, 0⟩ : TRule), 3)))))
                 else
                   (bif (x929.toList == (bstr [108, 101]).toList) then
                     (bif decide (i8 = IntKind.i64.wrap ((c15.length : Int) - 2)) then
                       F17_crossroadsref07_Parse_l1 c15 fuel0 (IntKind.i64.wrap (i8 + 2)) (⟨x5.Seq, x5.Permit, x5.P, x5.Ge, c82⟩ : TRule)
                     else
                       some (.error (((⟨0, false, (⟨0, 0⟩ : TPrefix), 0, 0⟩ : TRule), 3))))
                   else
                     some (.error (((⟨0, false, (⟨0, 0⟩ : TPrefix), 0, 0⟩ : TRule), 3))))))))))
      else
        some (.ok (i8, x5)))
/-- crossroads/crossroadsref07.Parse -/
def F17_crossroadsref07_Parse (s0 : ByteArray) : Option (TRule × Int) :=
  (bif decide (100 < (s0.size : Int)) then
    some ((⟨0, false, (⟨0, 0⟩ : TPrefix), 0, 0⟩ : TRule), 3)
  else
    ((match F45_crossroadsref07_Words s0 with
     | none => none
     | some c15 => 
       (bif decide ((c15.length : Int) < 3) then
         some ((⟨0, false, (⟨0, 0⟩ : TPrefix), 0, 0⟩ : TRule), 3)
       else
         (bif decide (7 < (c15.length : Int)) then
           some ((⟨0, false, (⟨0, 0⟩ : TPrefix), 0, 0⟩ : TRule), 3)
         else
           (bif decide ((Int.tmod (c15.length : Int) 2) = 0) then
             some ((⟨0, false, (⟨0, 0⟩ : TPrefix), 0, 0⟩ : TRule), 3)
           else
             (match getI c15 0 with
             | none => none
             | some x904 => 
               ((match F46_crossroadsref07_Number x904 with
                | none => none
                | some c34 => 
                  (bif decide (c34 = 0) then
                    some ((⟨0, false, (⟨0, 0⟩ : TPrefix), 0, 0⟩ : TRule), 3)
                  else
                    (match getI c15 1 with
                    | none => none
                    | some x906 => 
                      (bif x906.toList == (bstr [112, 101, 114, 109, 105, 116]).toList then
                        ((match getI c15 2 with
                         | none => none
                         | some x936 => 
                           ((match F47_crossroadsref03_Parse x936 with
                            | none => none
                            | some (c63a, c63b) => 
                              (bif decide (c63b = 3) then
                                some ((⟨0, false, (⟨0, 0⟩ : TPrefix), 0, 0⟩ : TRule), 3)
                              else
                                (match F17_crossroadsref07_Parse_l1 c15 100 3 (⟨c34, (x906.toList == (bstr [112, 101, 114, 109, 105, 116]).toList), c63a, 0, 0⟩ : TRule) with
                                | none => none
                                | some (.error r) => some r
                                | some (.ok (i8, x5)) => 
                                  (bif decide (c63b = 0) then
                                    (let c116 := F12_crossroadsref07_May x5
                                     (bif c116 then some (x5, 0) else some ((⟨0, false, (⟨0, 0⟩ : TPrefix), 0, 0⟩ : TRule), 1)))
                                  else
                                    some ((⟨0, false, (⟨0, 0⟩ : TPrefix), 0, 0⟩ : TRule), 1))))))))
                      else
                        (bif x906.toList == (bstr [100, 101, 110, 121]).toList then
                          ((match getI c15 2 with
                           | none => none
                           | some x909 => 
                             ((match F47_crossroadsref03_Parse x909 with
                              | none => none
                              | some (c63a, c63b) => 
                                (bif decide (c63b = 3) then
                                  some ((⟨0, false, (⟨0, 0⟩ : TPrefix), 0, 0⟩ : TRule), 3)
                                else
                                  (match F17_crossroadsref07_Parse_l1 c15 100 3 (⟨c34, (x906.toList == (bstr [112, 101, 114, 109, 105, 116]).toList), c63a, 0, 0⟩ : TRule) with
                                  | none => none
                                  | some (.error r) => some r
                                  | some (.ok (i8, x5)) => 
                                    (bif decide (c63b = 0) then
                                      (let c116 := F12_crossroadsref07_May x5
                                       (bif c116 then some (x5, 0) else some ((⟨0, false, (⟨0, 0⟩ : TPrefix), 0, 0⟩ : TRule), 1)))
                                    else
                                      some ((⟨0, false, (⟨0, 0⟩ : TPrefix), 0, 0⟩ : TRule), 1))))))))
                        else
                          some ((⟨0, false, (⟨0, 0⟩ : TPrefix), 0, 0⟩ : TRule), 3))))))))))))))

/-- crossroads/crossroadslaw07.PlistParse -/
def F4_crossroadslaw07_PlistParse (s0 : ByteArray) : Option Bool :=
  (bif decide (100 < (s0.size : Int)) then
    F11_crossroadslaw07_alive
  else
    ((match F8_plist_Parse s0 with
     | none => none
     | some (c13a, c13b) => 
       ((match F17_crossroadsref07_Parse s0 with
        | none => none
        | some (c18a, c18b) => 
          ((match F11_crossroadslaw07_alive with
           | none => none
           | some c21 => 
             (bif c21 then
               (let c24 := F13_crossroadslaw07_plain c13a
                (bif (decide (c24.Seq = c18a.Seq) && ((c24.Permit == c18a.Permit) && (decide (c24.P.A = c18a.P.A) && (decide (c24.P.N = c18a.P.N) && (decide (c24.Ge = c18a.Ge) && (decide (c24.Le = c18a.Le) && true)))))) then
                  (bif decide (c13b = c18b) then
                    (bif decide (c13b = 0) then
                      ((match F9_plist_Text c13a with
                       | none => none
                       | some c38 => some (c38.toList == s0.toList)))
                    else
                      some true)
                  else
                    some false)
                else
                  some false))
             else
               some false))))))))

def F18_crossroadsref07_MayAll_l1 (l0 : List TRule) : (i3 : Nat) → List TRule → Except Bool Unit
  | i3, [] => .ok ()
  | i3, x3 :: l3 => (let c14 := F12_crossroadsref07_May x3
       (bif c14 then
         (bif decide (0 < (i3 : Int)) then
           (bif decide (x3.Seq ≤ (l0.getD (i3 - 1) default).Seq) then .error (false) else F18_crossroadsref07_MayAll_l1 l0 (i3 + 1) l3)
         else
           F18_crossroadsref07_MayAll_l1 l0 (i3 + 1) l3)
       else
         .error (false)))
/-- crossroads/crossroadsref07.MayAll -/
def F18_crossroadsref07_MayAll (l0 : List TRule) : Bool :=
  (match F18_crossroadsref07_MayAll_l1 l0 0 l0 with
  | .error r => r
  | .ok _ => true)

def F19_crossroadslaw07_rows_l1  : (out3 : List TRule) → List TRule → Option (List TRule)
  | out3, [] => some out3
  | out3, x4 :: l4 => (let c17 := F13_crossroadslaw07_plain x4
       (bif decide (out3.length < 1099511627776) then
         F19_crossroadslaw07_rows_l1 (out3 ++ ([c17] : List TRule)) l4
       else none))
theorem F19_crossroadslaw07_rows_l1_e : True := by
  have := @F19_crossroadslaw07_rows_l1.eq_1
  trivial
/-- crossroads/crossroadslaw07.rows -/
def F19_crossroadslaw07_rows (l0 : List TRule) : Option (List TRule) :=
  (match F19_crossroadslaw07_rows_l1 ([] : List TRule) l0 with
  | none => none
  | some out3 => some out3)

def F51_slices_IndexFunc_l1 (hf1 : TRule → Bool) : (i8 : Nat) → List TRule → Except Int Unit
  | i8, [] => .ok ()
  | i8, x8 :: l8 => (let c16 := hf1 x8
       (bif c16 then .error ((i8 : Int)) else F51_slices_IndexFunc_l1 hf1 (i8 + 1) l8))
/-- slices.IndexFunc[[]crossroads/plist.Rule,crossroads/plist.Rule] -/
def F51_slices_IndexFunc (s0 : List TRule) (hf1 : TRule → Bool) : Int :=
  (match F51_slices_IndexFunc_l1 hf1 0 s0 with
  | .error r => r
  | .ok _ => (-1))

/-- slices.ContainsFunc[[]crossroads/plist.Rule,crossroads/plist.Rule] -/
def F48_slices_ContainsFunc (s0 : List TRule) (hf1 : TRule → Bool) : Bool :=
  (let c7 := F51_slices_IndexFunc s0 hf1
   decide (0 ≤ c7))

/-- (crossroads/plist.Rule).hides -/
def F50_plist_Rule_hides (x0 : TRule) (y1 : TRule) : Bool :=
  (match F39_plist_Rule_bounds x0 with
   | (c11a, c11b) => (match F39_plist_Rule_bounds y1 with
      | (c16a, c16b) => (let c23 := F40_addr_Covers x0.P y1.P
         (c23 && ((decide (c11a ≤ c16a)) && (decide (c16b ≤ c11b)))))))

/-- crossroads/plist.Idle$1 -/
def F49_plist_Idle_1 (x0 : TRule) (a1 : TRule) : Bool :=
  F50_plist_Rule_hides x0 a1

def F20_plist_Idle_l1 (l0 : List TRule) : (out3 : List Int) → (i8 : Nat) → List TRule → Option (List Int)
  | out3, i8, [] => some out3
  | out3, i8, x8 :: l8 => (bif decide ((0 : Int) ≤ (i8 : Int)) then
        (bif decide ((i8 : Int) ≤ (l0.length : Int)) then
          (let c17 := F48_slices_ContainsFunc (l0.take i8) (fun y0 => F49_plist_Idle_1 y0 x8)
           (bif c17 then
             (bif decide (out3.length < 1099511627776) then
               F20_plist_Idle_l1 l0 (out3 ++ ([x8.Seq] : List Int)) (i8 + 1) l8
             else none)
           else
             F20_plist_Idle_l1 l0 out3 (i8 + 1) l8))
        else none)
      else none)
theorem F20_plist_Idle_l1_e : True := by
  have := @F20_plist_Idle_l1.eq_1
  trivial
/-- crossroads/plist.Idle -/
def F20_plist_Idle (l0 : List TRule) : Option (List Int) :=
  (match F20_plist_Idle_l1 l0 ([] : List Int) 0 l0 with
  | none => none
  | some out3 => some out3)

/-- crossroads/plist.Drop$1 -/
def F52_plist_Drop_1 (x0 : TRule) (a1 : Int) : Bool :=
  decide (x0.Seq = a1)

/-- crossroads/plist.Drop -/
def F21_plist_Drop (l0 : List TRule) (seq1 : Int) : Option ((List TRule) × Int) :=
  (let c9 := F51_slices_IndexFunc l0 (fun y0 => F52_plist_Drop_1 y0 seq1)
   (bif decide (c9 < 0) then
     some (([] : List TRule), 6)
   else
     (bif decide (l0.length < 1099511627776) then
       (bif decide ((0 : Int) ≤ c9) then
         (bif decide (c9 ≤ IntKind.i64.wrap (c9 + 1)) then
           (bif decide (IntKind.i64.wrap (c9 + 1) ≤ (l0.length : Int)) then
             some ((del_ l0 c9 (IntKind.i64.wrap (c9 + 1))), 0)
           else none)
         else none)
       else none)
     else none)))

/-- crossroads/plist.Eval$1 -/
def F55_plist_Eval_1 (x0 : TRule) (a1 : TPrefix) : Bool :=
  F14_plist_Means x0 a1

/-- crossroads/plist.Eval -/
def F22_plist_Eval (l0 : List TRule) (q1 : TPrefix) : Option (Bool × Int) :=
  (let c9 := F51_slices_IndexFunc l0 (fun y0 => F55_plist_Eval_1 y0 q1)
   (bif decide (c9 < 0) then
     some (false, 0)
   else
     (match getI l0 c9 with
     | none => none
     | some x901 => some (x901.Permit, x901.Seq))))

def F5_crossroadslaw07_PlistIdle_l1  : (k6 : List TRule) → List Int → Option (Except Bool (List TRule))
  | k6, [] => some (.ok k6)
  | k6, x7 :: l7 => ((match F21_plist_Drop k6 x7 with
       | none => none
       | some (c41a, c41b) => (bif decide (c41b = 0) then F5_crossroadslaw07_PlistIdle_l1 c41a l7 else some (.error (false)))))
theorem F5_crossroadslaw07_PlistIdle_l1_e : True := by
  have := @F5_crossroadslaw07_PlistIdle_l1.eq_1
  trivial
/-- crossroads/crossroadslaw07.PlistIdle -/
def F5_crossroadslaw07_PlistIdle (l0 : List TRule) (q1 : TPrefix) : Option Bool :=
  (bif decide (210 < (l0.length : Int)) then
    F11_crossroadslaw07_alive
  else
    ((match F19_crossroadslaw07_rows l0 with
     | none => none
     | some c19 => 
       (let c20 := F18_crossroadsref07_MayAll c19
        (bif c20 then
          ((match F20_plist_Idle l0 with
           | none => none
           | some c25 => 
             (bif decide (l0.length < 1099511627776) then
               (match F5_crossroadslaw07_PlistIdle_l1 l0 c25 with
               | none => none
               | some (.error r) => some r
               | some (.ok k6) => 
                 ((match F22_plist_Eval l0 q1 with
                  | none => none
                  | some (c50a, c50b) => 
                    ((match F22_plist_Eval k6 q1 with
                     | none => none
                     | some (c56a, c56b) => 
                       ((match F11_crossroadslaw07_alive with
                        | none => none
                        | some c59 => 
                          (bif c59 then
                            (bif (c50a == c56a) then
                              (bif decide (c50b = c56b) then
                                some (decide ((k6.length : Int) = IntKind.i64.wrap ((l0.length : Int) - (c25.length : Int))))
                              else
                                some false)
                            else
                              some false)
                          else
                            some false))))))))
             else none)))
        else
          F11_crossroadslaw07_alive)))))

def F74_slices_BinarySearchFunc_l1 (x0 : List TRule) (target1 : Int) (hcmp2 : TRule → Int → Int) (fuel0 : Nat) (i9 : Int) (j10 : Int) : Option (Int × Int) :=
  match fuel0 with
  | 0 => none
  | fuel0 + 1 => (bif decide (i9 < j10) then
        (match getI x0 (IntKind.i64.wrap (Int.fdiv (IntKind.u64.wrap (IntKind.i64.wrap (i9 + j10))) (2 ^ 1))) with
        | none => none
        | some x917 => 
          (let c30 := hcmp2 x917 target1
           (bif decide (c30 < 0) then
             F74_slices_BinarySearchFunc_l1 x0 target1 hcmp2 fuel0 (IntKind.i64.wrap ((IntKind.i64.wrap (Int.fdiv (IntKind.u64.wrap (IntKind.i64.wrap (i9 + j10))) (2 ^ 1))) + 1)) j10
           else
             F74_slices_BinarySearchFunc_l1 x0 target1 hcmp2 fuel0 i9 (IntKind.i64.wrap (Int.fdiv (IntKind.u64.wrap (IntKind.i64.wrap (i9 + j10))) (2 ^ 1))))))
      else
        some (i9, j10))
/-- slices.BinarySearchFunc[[]crossroads/plist.Rule,crossroads/plist.Rule,int] -/
def F74_slices_BinarySearchFunc (x0 : List TRule) (target1 : Int) (hcmp2 : TRule → Int → Int) : Option (Int × Bool) :=
  (match F74_slices_BinarySearchFunc_l1 x0 target1 hcmp2 100 0 (x0.length : Int) with
  | none => none
  | some (i9, j10) => 
    (bif decide (i9 < (x0.length : Int)) then
      (match getI x0 i9 with
      | none => none
      | some x915 => 
        (let c46 := hcmp2 x915 target1
         some (i9, decide (c46 = 0))))
    else
      some (i9, false)))

/-- crossroads/plist.find$1 -/
def F75_plist_find_1 (x0 : TRule) (seq1 : Int) : Int :=
  IntKind.i64.wrap (x0.Seq - seq1)

/-- crossroads/plist.find -/
def F56_plist_find (l0 : List TRule) (seq1 : Int) : Option (Int × Bool) :=
  F74_slices_BinarySearchFunc l0 seq1 (fun y0 y1 => F75_plist_find_1 y0 y1)

/-- crossroads/plist.Add -/
def F23_plist_Add (l0 : List TRule) (x1 : TRule) : Option ((List TRule) × Int) :=
  (let c9 := F10_plist_May x1
   (bif c9 then
     ((match F56_plist_find l0 x1.Seq with
      | none => none
      | some (c15a, c15b) => 
        (bif c15b then
          some (([] : List TRule), 7)
        else
          (bif decide (200 ≤ (l0.length : Int)) then
            some (([] : List TRule), 8)
          else
            (bif decide (l0.length < 1099511627776) then
              (bif decide ((0 : Int) ≤ c15a) then
                (bif decide (c15a ≤ (l0.length : Int)) then
                  some ((ins_ l0 c15a ([x1] : List TRule)), 0)
                else none)
              else none)
            else none)))))
   else
     some (([] : List TRule), 1)))

def F24_crossroadsref07_Same_l1 (b1 : List TRule) : (i5 : Nat) → List TRule → Except Bool Unit
  | i5, [] => .ok ()
  | i5, x5 :: l5 => (bif decide (x5.Seq = (b1.getD i5 default).Seq) && ((x5.Permit == ((b1.getD i5 default).Permit)) && (decide (x5.P.A = ((b1.getD i5 default).P).A) && (decide (x5.P.N = ((b1.getD i5 default).P).N) && (decide (x5.Ge = (b1.getD i5 default).Ge) && (decide (x5.Le = (b1.getD i5 default).Le) && true))))) then F24_crossroadsref07_Same_l1 b1 (i5 + 1) l5 else .error (false))
/-- crossroads/crossroadsref07.Same -/
def F24_crossroadsref07_Same (a0 : List TRule) (b1 : List TRule) : Bool :=
  ((decide ((a0.length : Int) = (b1.length : Int))) && (match F24_crossroadsref07_Same_l1 b1 0 a0 with
  | .error r => r
  | .ok _ => true))

/-- crossroads/crossroadslaw07.PlistBack -/
def F6_crossroadslaw07_PlistBack (l0 : List TRule) (x1 : TRule) (q2 : TPrefix) : Option Bool :=
  (bif decide (150 < (l0.length : Int)) then
    F11_crossroadslaw07_alive
  else
    ((match F19_crossroadslaw07_rows l0 with
     | none => none
     | some c22 => 
       (let c23 := F18_crossroadsref07_MayAll c22
        (bif c23 then
          ((match F23_plist_Add l0 x1 with
           | none => none
           | some (c30a, c30b) => 
             (bif decide (c30b = 0) then
               ((match F21_plist_Drop c30a x1.Seq with
                | none => none
                | some (c39a, c39b) => 
                  (bif decide (c39b = 0) then
                    (bif decide ((c30a.length : Int) = IntKind.i64.wrap ((l0.length : Int) + 1)) then
                      ((match F19_crossroadslaw07_rows c39a with
                       | none => none
                       | some c54 => 
                         ((let c57 := F24_crossroadsref07_Same c54 c22
                           (bif c57 then
                             ((match F23_plist_Add l0 (⟨65535, true, (⟨0, 0⟩ : TPrefix), 0, 32⟩ : TRule) with
                              | none => none
                              | some (c63a, c63b) => 
                                ((match F22_plist_Eval l0 q2 with
                                 | none => none
                                 | some (c69a, c69b) => 
                                   ((match F22_plist_Eval c63a q2 with
                                    | none => none
                                    | some (c75a, c75b) => 
                                      (bif decide (c63b = 0) then
                                        (bif decide (q2.N < 0) then
                                          F11_crossroadslaw07_alive
                                        else
                                          (bif decide (32 < q2.N) then
                                            F11_crossroadslaw07_alive
                                          else
                                            (let c93 := F14_plist_Means (⟨1, false, (⟨0, 0⟩ : TPrefix), 0, 32⟩ : TRule) q2
                                             (bif c93 then
                                               ((match F11_crossroadslaw07_alive with
                                                | none => none
                                                | some c97 => 
                                                  (bif c97 then
                                                    (bif decide (c69b = 0) then
                                                      (bif c75a then some (decide (c75b = 65535)) else some false)
                                                    else
                                                      (bif (c75a == c69a) then (bif decide (c75b = c69b) then some true else some false) else some false))
                                                  else
                                                    some false)))
                                             else
                                               F11_crossroadslaw07_alive))))
                                      else
                                        F11_crossroadslaw07_alive)))))))
                           else
                             some false)))))
                    else
                      some false)
                  else
                    some false)))
             else
               ((match F23_plist_Add l0 (⟨65535, true, (⟨0, 0⟩ : TPrefix), 0, 32⟩ : TRule) with
                | none => none
                | some (c63a, c63b) => 
                  ((match F22_plist_Eval l0 q2 with
                   | none => none
                   | some (c69a, c69b) => 
                     ((match F22_plist_Eval c63a q2 with
                      | none => none
                      | some (c75a, c75b) => 
                        (bif decide (c63b = 0) then
                          (bif decide (q2.N < 0) then
                            F11_crossroadslaw07_alive
                          else
                            (bif decide (32 < q2.N) then
                              F11_crossroadslaw07_alive
                            else
                              (let c93 := F14_plist_Means (⟨1, false, (⟨0, 0⟩ : TPrefix), 0, 32⟩ : TRule) q2
                               (bif c93 then
                                 ((match F11_crossroadslaw07_alive with
                                  | none => none
                                  | some c97 => 
                                    (bif c97 then
                                      (bif decide (c69b = 0) then
                                        (bif c75a then some (decide (c75b = 65535)) else some false)
                                      else
                                        (bif (c75a == c69a) then (bif decide (c75b = c69b) then some true else some false) else some false))
                                    else
                                      some false)))
                               else
                                 F11_crossroadslaw07_alive))))
                        else
                          F11_crossroadslaw07_alive))))))))))
        else
          F11_crossroadslaw07_alive)))))

def F26_crossroadsref07_Drop_l1 (seq1 : Int) : (out6 : List TRule) → List TRule → Option (List TRule)
  | out6, [] => some out6
  | out6, x7 :: l7 => (bif decide (x7.Seq = seq1) then
        F26_crossroadsref07_Drop_l1 seq1 out6 l7
      else
        (bif decide (out6.length < 1099511627776) then
          F26_crossroadsref07_Drop_l1 seq1 (out6 ++ ([x7] : List TRule)) l7
        else none))
theorem F26_crossroadsref07_Drop_l1_e : True := by
  have := @F26_crossroadsref07_Drop_l1.eq_1
  trivial
/-- crossroads/crossroadsref07.Drop -/
def F26_crossroadsref07_Drop (l0 : List TRule) (seq1 : Int) : Option ((List TRule) × Int) :=
  (match F26_crossroadsref07_Drop_l1 seq1 ([] : List TRule) l0 with
  | none => none
  | some out6 => (bif decide ((out6.length : Int) = (l0.length : Int)) then some (([] : List TRule), 6) else some (out6, 0)))

def F25_crossroadsref07_Add_l1 (x1 : TRule) : (put9 : Bool) → (out8 : List TRule) → List TRule → Option (Bool × (List TRule))
  | put9, out8, [] => some (put9, out8)
  | put9, out8, x10 :: l10 => (bif put9 then
        (bif decide (out8.length < 1099511627776) then
          F25_crossroadsref07_Add_l1 x1 true (out8 ++ ([x10] : List TRule)) l10
        else none)
      else
        (bif decide (x1.Seq < x10.Seq) then
          (bif decide (out8.length < 1099511627776) then
            (bif decide ((out8 ++ ([x1] : List TRule)).length < 1099511627776) then
              F25_crossroadsref07_Add_l1 x1 true ((out8 ++ ([x1] : List TRule)) ++ ([x10] : List TRule)) l10
            else none)
          else none)
        else
          (bif decide (out8.length < 1099511627776) then
            F25_crossroadsref07_Add_l1 x1 false (out8 ++ ([x10] : List TRule)) l10
          else none)))
theorem F25_crossroadsref07_Add_l1_e : True := by
  have := @F25_crossroadsref07_Add_l1.eq_1
  trivial
/-- crossroads/crossroadsref07.Add -/
def F25_crossroadsref07_Add (l0 : List TRule) (x1 : TRule) : Option ((List TRule) × Int) :=
  (let c12 := F12_crossroadsref07_May x1
   (bif c12 then
     ((match F26_crossroadsref07_Drop l0 x1.Seq with
      | none => none
      | some (c18a, c18b) => 
        (bif decide (c18b = 0) then
          some (([] : List TRule), 7)
        else
          (bif decide (200 ≤ (l0.length : Int)) then
            some (([] : List TRule), 8)
          else
            (match F25_crossroadsref07_Add_l1 x1 false ([] : List TRule) l0 with
            | none => none
            | some (put9, out8) => 
              (bif put9 then
                some (out8, 0)
              else
                (bif decide (out8.length < 1099511627776) then
                  some ((out8 ++ ([x1] : List TRule)), 0)
                else none)))))))
   else
     some (([] : List TRule), 1)))

def F27_crossroadsref07_Eval_l1 (q1 : TPrefix) : List TRule → Except (Bool × Int) Unit
  | [] => .ok ()
  | x6 :: l6 => (let c18 := F15_crossroadsref07_Means x6 q1
       (bif c18 then .error ((x6.Permit, x6.Seq)) else F27_crossroadsref07_Eval_l1 q1 l6))
/-- crossroads/crossroadsref07.Eval -/
def F27_crossroadsref07_Eval (l0 : List TRule) (q1 : TPrefix) : Bool × Int :=
  (match F27_crossroadsref07_Eval_l1 q1 l0 with
  | .error r => r
  | .ok _ => (false, 0))

def F28_crossroadsref05_Ints_l1 (b1 : List Int) : (i5 : Nat) → List Int → Except Bool Unit
  | i5, [] => .ok ()
  | i5, x5 :: l5 => (bif decide (x5 = (b1.getD i5 default)) then F28_crossroadsref05_Ints_l1 b1 (i5 + 1) l5 else .error (false))
/-- crossroads/crossroadsref05.Ints -/
def F28_crossroadsref05_Ints (a0 : List Int) (b1 : List Int) : Bool :=
  ((decide ((a0.length : Int) = (b1.length : Int))) && (match F28_crossroadsref05_Ints_l1 b1 0 a0 with
  | .error r => r
  | .ok _ => true))

def F29_crossroadsref07_Idle_l1 (l0 : List TRule) (i4 : Nat) (x4 : TRule) (c23a : Int) (c23b : Int) (fuel8 : Nat) (idle7 : Bool) (i8 : Int) : Option Bool :=
  bif decide (i8 < (i4 : Int)) then
    match fuel8 with
    | 0 => some idle7
    | fuel8 + 1 => (match getI l0 i8 with
        | none => none
        | some x926 => 
          (match F41_crossroadsref07_Bounds x926 with
           | (c36a, c36b) => (bif idle7 then
               F29_crossroadsref07_Idle_l1 l0 i4 x4 c23a c23b fuel8 true (IntKind.i64.wrap (i8 + 1))
             else
               (let c51 := F42_crossroadsref03_Covers x926.P x4.P
                (bif c51 then
                  (bif decide (c36a ≤ c23a) then
                    F29_crossroadsref07_Idle_l1 l0 i4 x4 c23a c23b fuel8 (decide (c23b ≤ c36b)) (IntKind.i64.wrap (i8 + 1))
                  else
                    F29_crossroadsref07_Idle_l1 l0 i4 x4 c23a c23b fuel8 false (IntKind.i64.wrap (i8 + 1)))
                else
                  F29_crossroadsref07_Idle_l1 l0 i4 x4 c23a c23b fuel8 false (IntKind.i64.wrap (i8 + 1)))))))
  else some idle7
def F29_crossroadsref07_Idle_l2 (l0 : List TRule) : (out3 : List Int) → (i4 : Nat) → List TRule → Option (List Int)
  | out3, i4, [] => some out3
  | out3, i4, x4 :: l4 => (match F41_crossroadsref07_Bounds x4 with
       | (c23a, c23b) => (match F29_crossroadsref07_Idle_l1 l0 i4 x4 c23a c23b (fuelUp 0 (i4 : Int)) false 0 with
         | none => none
         | some idle7 => 
           (bif idle7 then
             (bif decide (out3.length < 1099511627776) then
               F29_crossroadsref07_Idle_l2 l0 (out3 ++ ([x4.Seq] : List Int)) (i4 + 1) l4
             else none)
           else
             F29_crossroadsref07_Idle_l2 l0 out3 (i4 + 1) l4)))
theorem F29_crossroadsref07_Idle_l2_e : True := by
  have := @F29_crossroadsref07_Idle_l2.eq_1
  trivial
/-- crossroads/crossroadsref07.Idle -/
def F29_crossroadsref07_Idle (l0 : List TRule) : Option (List Int) :=
  (match F29_crossroadsref07_Idle_l2 l0 ([] : List Int) 0 l0 with
  | none => none
  | some out3 => some out3)

/-- crossroads/crossroadslaw07.PlistLists -/
def F7_crossroadslaw07_PlistLists (l0 : List TRule) (x1 : TRule) (q2 : TPrefix) : Option Bool :=
  (bif decide (210 < (l0.length : Int)) then
    F11_crossroadslaw07_alive
  else
    ((match F19_crossroadslaw07_rows l0 with
     | none => none
     | some c26 => 
       (let c27 := F18_crossroadsref07_MayAll c26
        (bif c27 then
          (bif decide (l0.length < 1099511627776) then
            ((match F23_plist_Add l0 x1 with
             | none => none
             | some (c37a, c37b) => 
               ((let c44 := F13_crossroadslaw07_plain x1
                 ((match F25_crossroadsref07_Add c26 c44 with
                  | none => none
                  | some (c45a, c45b) => 
                    ((match F21_plist_Drop l0 x1.Seq with
                     | none => none
                     | some (c52a, c52b) => 
                       (((match F26_crossroadsref07_Drop c26 x1.Seq with
                         | none => none
                         | some (c60a, c60b) => 
                           ((match F22_plist_Eval l0 q2 with
                            | none => none
                            | some (c66a, c66b) => 
                              ((match F27_crossroadsref07_Eval c26 q2 with
                                | (c73a, c73b) => ((match F19_crossroadslaw07_rows c37a with
                                   | none => none
                                   | some c77 => 
                                     (let c79 := F24_crossroadsref07_Same c77 c45a
                                      (bif c79 then
                                        ((match F19_crossroadslaw07_rows c52a with
                                         | none => none
                                         | some c82 => 
                                           (let c84 := F24_crossroadsref07_Same c82 c60a
                                            (bif c84 then
                                              ((match F20_plist_Idle l0 with
                                               | none => none
                                               | some c88 => 
                                                 (((match F29_crossroadsref07_Idle c26 with
                                                   | none => none
                                                   | some c91 => 
                                                     (let c92 := F28_crossroadsref05_Ints c88 c91
                                                      ((match F11_crossroadslaw07_alive with
                                                       | none => none
                                                       | some c94 => 
                                                         (bif c94 then
                                                           (bif c92 then
                                                             (bif decide (c37b = c45b) then
                                                               (bif decide (c52b = c60b) then
                                                                 (bif (c66a == c73a) then
                                                                   (bif decide (c66b = c73b) then
                                                                     (((let c123 := F24_crossroadsref07_Same c26 c26
                                                                        some c123)))
                                                                   else
                                                                     some false)
                                                                 else
                                                                   some false)
                                                               else
                                                                 some false)
                                                             else
                                                               some false)
                                                           else
                                                             some false)
                                                         else
                                                           some false)))))))))
                                            else
                                              ((match F11_crossroadslaw07_alive with
                                               | none => none
                                               | some c94 => some false))))))
                                      else
                                        ((match F11_crossroadslaw07_alive with
                                         | none => none
                                         | some c94 => some false)))))))))))))))))))))
          else none)
        else
          F11_crossroadslaw07_alive)))))

end Go.Proofs.YtjcpkgnlnmajjaaGreatDoor.Abs

/- The functions of the program as Lean functions (printed by this work's own program gen.py). -/
import Derived.Test.YtkdhongicibhbaaDoorP0
import Derived.Test.YtkdhongicibhbaaDoorA2
import Derived.Test.YtkdhongicibhbaaDoorP8
set_option linter.unusedVariables false
set_option maxRecDepth 100000
namespace Go.Proofs.YtkdhongicibhbaaDoor.Abs
open Go

structure TPrefix where
  A : Int
  N : Int
  deriving DecidableEq, Inhabited

/-- crossroads/addr.Mask -/
def F16_addr_Mask (n0 : Int) : Int :=
  IntKind.u32.wrap (shl_ .u64 4294967295 (IntKind.i64.wrap (32 - (min_ (max_ n0 0) 32))))

/-- crossroads/addr.isLong -/
def F39_addr_isLong (n0 : Int) : Bool :=
  ((decide (0 ≤ n0)) && (decide (n0 ≤ 32)))

/-- crossroads/addr.May -/
def F17_addr_May (p0 : TPrefix) : Bool :=
  (let c5 := F39_addr_isLong p0.N
   (c5 && (let c11 := F16_addr_Mask p0.N
    decide (bit_andNot .u32 p0.A c11 = 0))))

/-- crossroads/addr.number$1 -/
def F43_addr_number_1 (c0 : Int) : Bool :=
  ((decide (c0 < 48)) || (decide (57 < c0)))

/-- crossroads/addr.number -/
def F34_addr_number (s0 : ByteArray) (most1 : Int) : Option (Int × Bool) :=
  (bif (s0.toList == (bstr []).toList) then
    some (0, false)
  else
    (bif decide (3 < (s0.size : Int)) then
      some (0, false)
    else
      (bif decide (1 < (s0.size : Int)) then
        (bif decide ((0 : Int) < (s0.size : Int)) then
          (bif decide ((strAt s0 0) = 48) then
            some (0, false)
          else
            (let c29 := containsFuncS s0 (fun y0 => F43_addr_number_1 y0)
             (bif c29 then
               some (0, false)
             else
               ((match atoiO s0 with
                | none => none
                | some (c33a, c33b) => some (c33a, decide (c33a ≤ most1)))))))
        else none)
      else
        (let c29 := containsFuncS s0 (fun y0 => F43_addr_number_1 y0)
         (bif c29 then
           some (0, false)
         else
           ((match atoiO s0 with
            | none => none
            | some (c33a, c33b) => some (c33a, decide (c33a ≤ most1)))))))))

def F10_addr_Parse_l1  : (p10 : TPrefix) → List ByteArray → Option (Except (TPrefix × Int) TPrefix)
  | p10, [] => some (.ok p10)
  | p10, x44 :: l44 => ((match F34_addr_number x44 255 with
       | none => none
       | some (c50a, c50b) => 
         (bif c50b then
           F10_addr_Parse_l1 (⟨bit_or .u32 (IntKind.u32.wrap (p10.A * 2 ^ 8)) (IntKind.u32.wrap c50a), p10.N⟩ : TPrefix) l44
         else
           some (.error (((⟨0, 0⟩ : TPrefix), 3))))))
theorem F10_addr_Parse_l1_e : True := by
  have := @F10_addr_Parse_l1.eq_1
  trivial
/-- crossroads/addr.Parse -/
def F10_addr_Parse (s0 : ByteArray) : Option (TPrefix × Int) :=
  ((match cutO s0 (bstr [47]) with
   | none => none
   | some (c17a, c17b, c17c) => 
     ((match splitO c17a (bstr [46]) with
      | none => none
      | some c22 => 
        ((match F34_addr_number c17b 32 with
         | none => none
         | some (c25a, c25b) => 
           (bif c17c then
             (bif c25b then
               (bif decide ((c22.length : Int) = 4) then
                 (match F10_addr_Parse_l1 (⟨0, c25a⟩ : TPrefix) c22 with
                 | none => none
                 | some (.error r) => some r
                 | some (.ok p10) => 
                   (let c65 := F17_addr_May p10
                    (bif c65 then some (p10, 0) else some ((⟨0, 0⟩ : TPrefix), 1))))
               else
                 some ((⟨0, 0⟩ : TPrefix), 3))
             else
               some ((⟨0, 0⟩ : TPrefix), 3))
           else
             some ((⟨0, 0⟩ : TPrefix), 3))))))))

/-- crossroads/addr.Text -/
def F12_addr_Text (p0 : TPrefix) : Option ByteArray :=
  ((match itoaO (IntKind.i64.wrap (bit_and .u32 (Int.fdiv p0.A (2 ^ 24)) 255)) with
   | none => none
   | some c16 => 
     ((match itoaO (IntKind.i64.wrap (bit_and .u32 (Int.fdiv p0.A (2 ^ 16)) 255)) with
      | none => none
      | some c16x => 
        ((match itoaO (IntKind.i64.wrap (bit_and .u32 (Int.fdiv p0.A (2 ^ 8)) 255)) with
         | none => none
         | some c16xx => 
           (bif decide ((([c16] : List ByteArray) ++ ([c16x] : List ByteArray)).length < 1099511627776) then
             ((match itoaO (IntKind.i64.wrap (bit_and .u32 (Int.fdiv p0.A (2 ^ 0)) 255)) with
              | none => none
              | some c16xxx => 
                (bif decide (((([c16] : List ByteArray) ++ ([c16x] : List ByteArray)) ++ ([c16xx] : List ByteArray)).length < 1099511627776) then
                  ((match joinO (((([c16] : List ByteArray) ++ ([c16x] : List ByteArray)) ++ ([c16xx] : List ByteArray)) ++ ([c16xxx] : List ByteArray)) (bstr [46]) with
                   | none => none
                   | some c20 => 
                     (bif decide (c20.size + (bstr [47]).size ≤ 9223372036854775807) then
                       ((match itoaO p0.N with
                        | none => none
                        | some c24 => 
                          (bif decide ((c20 ++ (bstr [47])).size + c24.size ≤ 9223372036854775807) then
                            some ((c20 ++ (bstr [47])) ++ c24)
                          else none)))
                     else none)))
                else none)))
           else none)))))))

/-- crossroads/addr.Has -/
def F22_addr_Has (p0 : TPrefix) (a1 : Int) : Bool :=
  (let c6 := F17_addr_May p0
   (c6 && (let c11 := F16_addr_Mask p0.N
    decide (bit_and .u32 a1 c11 = p0.A))))

/-- crossroads/addr.Covers -/
def F14_addr_Covers (p0 : TPrefix) (q1 : TPrefix) : Bool :=
  (let c6 := F17_addr_May q1
   (c6 && ((decide (p0.N ≤ q1.N)) && (F22_addr_Has p0 q1.A))))

/-- crossroads/crossroadslaw03.alive -/
def F9_crossroadslaw03_alive : Option Bool :=
  ((match F10_addr_Parse (bstr [49, 48, 46, 48, 46, 48, 46, 48, 47, 56]) with
   | none => none
   | some (c8a, c8b) => 
     ((match F10_addr_Parse (bstr [49, 48, 46, 49, 46, 48, 46, 48, 47, 49, 54]) with
      | none => none
      | some (c12a, c12b) => 
        ((match F10_addr_Parse (bstr [49, 48, 46, 49, 46, 48, 46, 48, 47, 56]) with
         | none => none
         | some (c16a, c16b) => 
           (bif decide (c8b = 0) then
             (bif decide (c12b = 0) then
               (bif decide (c16b = 1) then
                 (let c32 := F14_addr_Covers c8a c12a
                  (bif c32 then
                    (let c37 := F14_addr_Covers c12a c8a
                     (bif c37 then
                       some false
                     else
                       ((match F12_addr_Text c12a with
                        | none => none
                        | some c42 => some (c42.toList == (bstr [49, 48, 46, 49, 46, 48, 46, 48, 47, 49, 54]).toList)))))
                  else
                    some false))
               else
                 some false)
             else
               some false)
           else
             some false)))))))

/-- crossroads/crossroadsref03.Bit -/
def F29_crossroadsref03_Bit (a0 : Int) (i1 : Int) : Int :=
  (bif decide (i1 < 0) then
    0
  else
    (bif decide (31 < i1) then
      0
    else
      IntKind.i64.wrap (bit_and .u32 (shr_ .u32 a0 (IntKind.u64.wrap (IntKind.i64.wrap (31 - i1)))) 1)))

def F26_crossroadsref03_May_l1 (p0 : TPrefix) (fuel3 : Nat) (i3 : Int) : Except Bool Unit :=
  bif decide (i3 < 32) then
    match fuel3 with
    | 0 => .ok ()
    | fuel3 + 1 => (let c21 := F29_crossroadsref03_Bit p0.A i3
         (bif decide (c21 = 1) then .error (false) else F26_crossroadsref03_May_l1 p0 fuel3 (IntKind.i64.wrap (i3 + 1))))
  else .ok ()
/-- crossroads/crossroadsref03.May -/
def F26_crossroadsref03_May (p0 : TPrefix) : Bool :=
  (bif decide (p0.N < 0) then
    false
  else
    (bif decide (32 < p0.N) then
      false
    else
      (match F26_crossroadsref03_May_l1 p0 (fuelUp p0.N 32) p0.N with
      | .error r => r
      | .ok _ => true)))

def F35_crossroadsref03_number_l1 (s0 : ByteArray) (fuel0 : Nat) (n6 : Int) (k7 : Int) : Option (Int × Int) :=
  match fuel0 with
  | 0 => none
  | fuel0 + 1 => (bif decide (k7 < (s0.size : Int)) then
        (bif decide ((0 : Int) ≤ k7) then
          (bif decide (48 ≤ (strAt s0 k7)) then
            (bif decide ((strAt s0 k7) ≤ 57) then
              (bif decide (k7 < 4) then
                F35_crossroadsref03_number_l1 s0 fuel0 (IntKind.i64.wrap ((IntKind.i64.wrap (n6 * 10)) + (IntKind.i64.wrap (IntKind.u8.wrap ((strAt s0 k7) - 48))))) (IntKind.i64.wrap (k7 + 1))
              else
                some (n6, k7))
            else
              some (n6, k7))
          else
            some (n6, k7))
        else none)
      else
        some (n6, k7))
/-- crossroads/crossroadsref03.number -/
def F35_crossroadsref03_number (s0 : ByteArray) (most1 : Int) : Option (Int × Int) :=
  (match F35_crossroadsref03_number_l1 s0 100 0 0 with
  | none => none
  | some (n6, k7) => 
    (bif decide (k7 = 0) then
      some (0, 0)
    else
      (bif decide (1 < k7) then
        (bif decide ((0 : Int) < (s0.size : Int)) then
          (bif decide ((strAt s0 0) = 48) then some (0, 0) else (bif decide (most1 < n6) then some (0, 0) else some (n6, k7)))
        else none)
      else
        (bif decide (most1 < n6) then some (0, 0) else some (n6, k7)))))

def F11_crossroadsref03_Parse_l1  (fuel0 : Nat) (s0x : ByteArray) (a4 : Int) (i5 : Int) : Option (Except (TPrefix × Int) (ByteArray × Int × Int)) :=
  match fuel0 with
  | 0 => none
  | fuel0 + 1 => (bif decide (i5 < 4) then
        ((match F35_crossroadsref03_number s0x 255 with
         | none => none
         | some (c18a, c18b) => 
           (bif decide (i5 = 3) then
             (bif decide (c18b = 0) then
               some (.error (((⟨0, 0⟩ : TPrefix), 3)))
             else
               (bif decide ((s0x.size : Int) ≤ c18b) then
                 some (.error (((⟨0, 0⟩ : TPrefix), 3)))
               else
                 (bif decide ((0 : Int) ≤ c18b) then
                   (bif decide (c18b < (s0x.size : Int)) then
                     (bif decide ((strAt s0x c18b) = 47) then
                       (bif decide ((0 : Int) ≤ IntKind.i64.wrap (c18b + 1)) then
                         (bif decide (IntKind.i64.wrap (c18b + 1) ≤ (s0x.size : Int)) then
                           F11_crossroadsref03_Parse_l1 fuel0 (s0x.extract (IntKind.i64.wrap (c18b + 1)).toNat s0x.size) (IntKind.u32.wrap ((IntKind.u32.wrap (a4 * 256)) + (IntKind.u32.wrap c18a))) (IntKind.i64.wrap (i5 + 1))
                         else none)
                       else none)
                     else
                       some (.error (((⟨0, 0⟩ : TPrefix), 3))))
                   else none)
                 else none)))
           else
             (bif decide (c18b = 0) then
               some (.error (((⟨0, 0⟩ : TPrefix), 3)))
             else
               (bif decide ((s0x.size : Int) ≤ c18b) then
                 some (.error (((⟨0, 0⟩ : TPrefix), 3)))
               else
                 (bif decide ((0 : Int) ≤ c18b) then
                   (bif decide (c18b < (s0x.size : Int)) then
                     (bif decide ((strAt s0x c18b) = 46) then
                       (bif decide ((0 : Int) ≤ IntKind.i64.wrap (c18b + 1)) then
                         (bif decide (IntKind.i64.wrap (c18b + 1) ≤ (s0x.size : Int)) then
                           F11_crossroadsref03_Parse_l1 fuel0 (s0x.extract (IntKind.i64.wrap (c18b + 1)).toNat s0x.size) (IntKind.u32.wrap ((IntKind.u32.wrap (a4 * 256)) + (IntKind.u32.wrap c18a))) (IntKind.i64.wrap (i5 + 1))
                         else none)
                       else none)
                     else
                       some (.error (((⟨0, 0⟩ : TPrefix), 3))))
                   else none)
                 else none))))))
      else
        some (.ok (s0x, a4, i5)))
/-- crossroads/crossroadsref03.Parse -/
def F11_crossroadsref03_Parse (s0 : ByteArray) : Option (TPrefix × Int) :=
  (match F11_crossroadsref03_Parse_l1 100 s0 0 0 with
  | none => none
  | some (.error r) => some r
  | some (.ok (s0x, a4, i5)) => 
    ((match F35_crossroadsref03_number s0x 32 with
     | none => none
     | some (c50a, c50b) => 
       (bif decide (c50b = 0) then
         some ((⟨0, 0⟩ : TPrefix), 3)
       else
         (bif decide (c50b = (s0x.size : Int)) then
           (let c66 := F26_crossroadsref03_May (⟨a4, c50a⟩ : TPrefix)
            (bif c66 then some ((⟨a4, c50a⟩ : TPrefix), 0) else some ((⟨0, 0⟩ : TPrefix), 1)))
         else
           some ((⟨0, 0⟩ : TPrefix), 3))))))

/-- crossroads/crossroadslaw03.AddrParse -/
def F3_crossroadslaw03_AddrParse (s0 : ByteArray) : Option Bool :=
  (bif decide (60 < (s0.size : Int)) then
    F9_crossroadslaw03_alive
  else
    ((match F10_addr_Parse s0 with
     | none => none
     | some (c13a, c13b) => 
       ((match F11_crossroadsref03_Parse s0 with
        | none => none
        | some (c18a, c18b) => 
          ((match F9_crossroadslaw03_alive with
           | none => none
           | some c21 => 
             (bif c21 then
               (bif (decide (c13a.A = c18a.A) && (decide (c13a.N = c18a.N) && true)) then
                 (bif decide (c13b = c18b) then
                   (bif decide (c13b = 0) then
                     ((match F12_addr_Text c13a with
                      | none => none
                      | some c37 => some (c37.toList == s0.toList)))
                   else
                     some true)
                 else
                   some false)
               else
                 some false)
             else
               some false))))))))

/-- crossroads/addr.Less -/
def F13_addr_Less (p0 : TPrefix) (q1 : TPrefix) : Bool :=
  (bif decide (p0.A = q1.A) then decide (p0.N < q1.N) else decide (p0.A < q1.A))

/-- crossroads/crossroadslaw03.AddrOrder -/
def F4_crossroadslaw03_AddrOrder (p0 : TPrefix) (q1 : TPrefix) (s2 : TPrefix) : Option Bool :=
  (let c11 := F13_addr_Less p0 q1
   (let c14 := F13_addr_Less q1 p0
    (bif c11 then
      (bif c14 then
        some false
      else
        (bif (true == (decide (p0.A = q1.A) && (decide (p0.N = q1.N) && true))) then
          some false
        else
          (let c34 := F13_addr_Less q1 s2
           (bif c34 then
             (let c39 := F13_addr_Less p0 s2
              (bif c39 then
                ((match F9_crossroadslaw03_alive with
                 | none => none
                 | some c43 => 
                   (bif c43 then
                     (let c47 := F14_addr_Covers p0 q1
                      some true)
                   else
                     some false)))
              else
                some false))
           else
             ((match F9_crossroadslaw03_alive with
              | none => none
              | some c43 => 
                (bif c43 then
                  (let c47 := F14_addr_Covers p0 q1
                   some true)
                else
                  some false)))))))
    else
      (bif (c14 == (decide (p0.A = q1.A) && (decide (p0.N = q1.N) && true))) then
        some false
      else
        ((match F9_crossroadslaw03_alive with
         | none => none
         | some c43 => 
           (bif c43 then
             (let c47 := F14_addr_Covers p0 q1
              (bif c47 then
                (bif (decide (p0.A = q1.A) && (decide (p0.N = q1.N) && true)) then some true else some false)
              else
                some true))
           else
             some false)))))))

/-- math/bits.Len32 -/
def F50_bits_Len32 (x0 : Int) : Int :=
  (bif decide (65536 ≤ x0) then
    (bif decide (256 ≤ (Int.fdiv x0 (2 ^ 16))) then
      IntKind.i64.wrap (24 + (IntKind.i64.wrap (strAt (bstr [0, 1, 2, 2, 3, 3, 3, 3, 4, 4, 4, 4, 4, 4, 4, 4, 5, 5, 5, 5, 5, 5, 5, 5, 5, 5, 5, 5, 5, 5, 5, 5, 6, 6, 6, 6, 6, 6, 6, 6, 6, 6, 6, 6, 6, 6, 6, 6, 6, 6, 6, 6, 6, 6, 6, 6, 6, 6, 6, 6, 6, 6, 6, 6, 7, 7, 7, 7, 7, 7, 7, 7, 7, 7, 7, 7, 7, 7, 7, 7, 7, 7, 7, 7, 7, 7, 7, 7, 7, 7, 7, 7, 7, 7, 7, 7, 7, 7, 7, 7, 7, 7, 7, 7, 7, 7, 7, 7, 7, 7, 7, 7, 7, 7, 7, 7, 7, 7, 7, 7, 7, 7, 7, 7, 7, 7, 7, 7, 8, 8, 8, 8, 8, 8, 8, 8, 8, 8, 8, 8, 8, 8, 8, 8, 8, 8, 8, 8, 8, 8, 8, 8, 8, 8, 8, 8, 8, 8, 8, 8, 8, 8, 8, 8, 8, 8, 8, 8, 8, 8, 8, 8, 8, 8, 8, 8, 8, 8, 8, 8, 8, 8, 8, 8, 8, 8, 8, 8, 8, 8, 8, 8, 8, 8, 8, 8, 8, 8, 8, 8, 8, 8, 8, 8, 8, 8, 8, 8, 8, 8, 8, 8, 8, 8, 8, 8, 8, 8, 8, 8, 8, 8, 8, 8, 8, 8, 8, 8, 8, 8, 8, 8, 8, 8, 8, 8, 8, 8, 8, 8, 8, 8, 8, 8, 8, 8, 8, 8, 8, 8, 8, 8, 8, 8, 8, 8]) (IntKind.u8.wrap (Int.fdiv (Int.fdiv x0 (2 ^ 16)) (2 ^ 8))))))
    else
      IntKind.i64.wrap (16 + (IntKind.i64.wrap (strAt (bstr [0, 1, 2, 2, 3, 3, 3, 3, 4, 4, 4, 4, 4, 4, 4, 4, 5, 5, 5, 5, 5, 5, 5, 5, 5, 5, 5, 5, 5, 5, 5, 5, 6, 6, 6, 6, 6, 6, 6, 6, 6, 6, 6, 6, 6, 6, 6, 6, 6, 6, 6, 6, 6, 6, 6, 6, 6, 6, 6, 6, 6, 6, 6, 6, 7, 7, 7, 7, 7, 7, 7, 7, 7, 7, 7, 7, 7, 7, 7, 7, 7, 7, 7, 7, 7, 7, 7, 7, 7, 7, 7, 7, 7, 7, 7, 7, 7, 7, 7, 7, 7, 7, 7, 7, 7, 7, 7, 7, 7, 7, 7, 7, 7, 7, 7, 7, 7, 7, 7, 7, 7, 7, 7, 7, 7, 7, 7, 7, 8, 8, 8, 8, 8, 8, 8, 8, 8, 8, 8, 8, 8, 8, 8, 8, 8, 8, 8, 8, 8, 8, 8, 8, 8, 8, 8, 8, 8, 8, 8, 8, 8, 8, 8, 8, 8, 8, 8, 8, 8, 8, 8, 8, 8, 8, 8, 8, 8, 8, 8, 8, 8, 8, 8, 8, 8, 8, 8, 8, 8, 8, 8, 8, 8, 8, 8, 8, 8, 8, 8, 8, 8, 8, 8, 8, 8, 8, 8, 8, 8, 8, 8, 8, 8, 8, 8, 8, 8, 8, 8, 8, 8, 8, 8, 8, 8, 8, 8, 8, 8, 8, 8, 8, 8, 8, 8, 8, 8, 8, 8, 8, 8, 8, 8, 8, 8, 8, 8, 8, 8, 8, 8, 8, 8, 8, 8, 8]) (IntKind.u8.wrap (Int.fdiv x0 (2 ^ 16)))))))
  else
    (bif decide (256 ≤ x0) then
      IntKind.i64.wrap (8 + (IntKind.i64.wrap (strAt (bstr [0, 1, 2, 2, 3, 3, 3, 3, 4, 4, 4, 4, 4, 4, 4, 4, 5, 5, 5, 5, 5, 5, 5, 5, 5, 5, 5, 5, 5, 5, 5, 5, 6, 6, 6, 6, 6, 6, 6, 6, 6, 6, 6, 6, 6, 6, 6, 6, 6, 6, 6, 6, 6, 6, 6, 6, 6, 6, 6, 6, 6, 6, 6, 6, 7, 7, 7, 7, 7, 7, 7, 7, 7, 7, 7, 7, 7, 7, 7, 7, 7, 7, 7, 7, 7, 7, 7, 7, 7, 7, 7, 7, 7, 7, 7, 7, 7, 7, 7, 7, 7, 7, 7, 7, 7, 7, 7, 7, 7, 7, 7, 7, 7, 7, 7, 7, 7, 7, 7, 7, 7, 7, 7, 7, 7, 7, 7, 7, 8, 8, 8, 8, 8, 8, 8, 8, 8, 8, 8, 8, 8, 8, 8, 8, 8, 8, 8, 8, 8, 8, 8, 8, 8, 8, 8, 8, 8, 8, 8, 8, 8, 8, 8, 8, 8, 8, 8, 8, 8, 8, 8, 8, 8, 8, 8, 8, 8, 8, 8, 8, 8, 8, 8, 8, 8, 8, 8, 8, 8, 8, 8, 8, 8, 8, 8, 8, 8, 8, 8, 8, 8, 8, 8, 8, 8, 8, 8, 8, 8, 8, 8, 8, 8, 8, 8, 8, 8, 8, 8, 8, 8, 8, 8, 8, 8, 8, 8, 8, 8, 8, 8, 8, 8, 8, 8, 8, 8, 8, 8, 8, 8, 8, 8, 8, 8, 8, 8, 8, 8, 8, 8, 8, 8, 8, 8, 8]) (IntKind.u8.wrap (Int.fdiv x0 (2 ^ 8))))))
    else
      IntKind.i64.wrap (0 + (IntKind.i64.wrap (strAt (bstr [0, 1, 2, 2, 3, 3, 3, 3, 4, 4, 4, 4, 4, 4, 4, 4, 5, 5, 5, 5, 5, 5, 5, 5, 5, 5, 5, 5, 5, 5, 5, 5, 6, 6, 6, 6, 6, 6, 6, 6, 6, 6, 6, 6, 6, 6, 6, 6, 6, 6, 6, 6, 6, 6, 6, 6, 6, 6, 6, 6, 6, 6, 6, 6, 7, 7, 7, 7, 7, 7, 7, 7, 7, 7, 7, 7, 7, 7, 7, 7, 7, 7, 7, 7, 7, 7, 7, 7, 7, 7, 7, 7, 7, 7, 7, 7, 7, 7, 7, 7, 7, 7, 7, 7, 7, 7, 7, 7, 7, 7, 7, 7, 7, 7, 7, 7, 7, 7, 7, 7, 7, 7, 7, 7, 7, 7, 7, 7, 8, 8, 8, 8, 8, 8, 8, 8, 8, 8, 8, 8, 8, 8, 8, 8, 8, 8, 8, 8, 8, 8, 8, 8, 8, 8, 8, 8, 8, 8, 8, 8, 8, 8, 8, 8, 8, 8, 8, 8, 8, 8, 8, 8, 8, 8, 8, 8, 8, 8, 8, 8, 8, 8, 8, 8, 8, 8, 8, 8, 8, 8, 8, 8, 8, 8, 8, 8, 8, 8, 8, 8, 8, 8, 8, 8, 8, 8, 8, 8, 8, 8, 8, 8, 8, 8, 8, 8, 8, 8, 8, 8, 8, 8, 8, 8, 8, 8, 8, 8, 8, 8, 8, 8, 8, 8, 8, 8, 8, 8, 8, 8, 8, 8, 8, 8, 8, 8, 8, 8, 8, 8, 8, 8, 8, 8, 8, 8]) (IntKind.u8.wrap x0))))))

/-- math/bits.LeadingZeros32 -/
def F38_bits_LeadingZeros32 (x0 : Int) : Int :=
  (let c4 := F50_bits_Len32 x0
   IntKind.i64.wrap (32 - c4))

/-- crossroads/addr.Long -/
def F15_addr_Long (mask0 : Int) : Int × Int :=
  (let c7 := F38_bits_LeadingZeros32 (bit_xor .u32 4294967295 mask0)
   (let c9 := F16_addr_Mask c7
    (bif decide (c9 = mask0) then (c7, 0) else (0, 3))))

/-- crossroads/crossroadslaw03.AddrBack -/
def F5_crossroadslaw03_AddrBack (p0 : TPrefix) (n1 : Int) : Option Bool :=
  (bif decide (0 ≤ n1) then
    (bif decide (n1 ≤ 32) then
      (let c17 := F16_addr_Mask n1
       (match F15_addr_Long c17 with
        | (c18a, c18b) => (bif decide (c18a = n1) then
            (bif decide (c18b = 0) then
              ((match F12_addr_Text p0 with
               | none => none
               | some c30 => 
                 ((match F10_addr_Parse c30 with
                  | none => none
                  | some (c31a, c31b) => 
                    (let c35 := F17_addr_May p0
                     (bif c35 then
                       ((match F9_crossroadslaw03_alive with
                        | none => none
                        | some c42 => 
                          (bif c42 then
                            (bif decide (c31b = 0) then some (decide (c31a.A = p0.A) && (decide (c31a.N = p0.N) && true)) else some false)
                          else
                            some false)))
                     else
                       ((match F9_crossroadslaw03_alive with
                        | none => none
                        | some c37 => (bif c37 then some (!decide (c31b = 0)) else some false)))))))))
            else
              some false)
          else
            some false)))
    else
      ((match F12_addr_Text p0 with
       | none => none
       | some c30 => 
         ((match F10_addr_Parse c30 with
          | none => none
          | some (c31a, c31b) => 
            (let c35 := F17_addr_May p0
             (bif c35 then
               ((match F9_crossroadslaw03_alive with
                | none => none
                | some c42 => 
                  (bif c42 then
                    (bif decide (c31b = 0) then some (decide (c31a.A = p0.A) && (decide (c31a.N = p0.N) && true)) else some false)
                  else
                    some false)))
             else
               ((match F9_crossroadslaw03_alive with
                | none => none
                | some c37 => (bif c37 then some (!decide (c31b = 0)) else some false))))))))))
  else
    ((match F12_addr_Text p0 with
     | none => none
     | some c30 => 
       ((match F10_addr_Parse c30 with
        | none => none
        | some (c31a, c31b) => 
          (let c35 := F17_addr_May p0
           (bif c35 then
             ((match F9_crossroadslaw03_alive with
              | none => none
              | some c42 => 
                (bif c42 then
                  (bif decide (c31b = 0) then some (decide (c31a.A = p0.A) && (decide (c31a.N = p0.N) && true)) else some false)
                else
                  some false)))
           else
             ((match F9_crossroadslaw03_alive with
              | none => none
              | some c37 => (bif c37 then some (!decide (c31b = 0)) else some false))))))))))

def F27_crossroadsref03_Has_l1 (p0 : TPrefix) (a1 : Int) (fuel5 : Nat) (i5 : Int) : Except Bool Unit :=
  bif decide (i5 < p0.N) then
    match fuel5 with
    | 0 => .ok ()
    | fuel5 + 1 => (let c18 := F29_crossroadsref03_Bit p0.A i5
         (let c21 := F29_crossroadsref03_Bit a1 i5
          (bif decide (c18 = c21) then F27_crossroadsref03_Has_l1 p0 a1 fuel5 (IntKind.i64.wrap (i5 + 1)) else .error (false))))
  else .ok ()
/-- crossroads/crossroadsref03.Has -/
def F27_crossroadsref03_Has (p0 : TPrefix) (a1 : Int) : Bool :=
  (let c7 := F26_crossroadsref03_May p0
   (c7 && (match F27_crossroadsref03_Has_l1 p0 a1 (fuelUp 0 p0.N) 0 with
   | .error r => r
   | .ok _ => true)))

/-- crossroads/crossroadsref03.Covers -/
def F18_crossroadsref03_Covers (p0 : TPrefix) (q1 : TPrefix) : Bool :=
  (let c6 := F26_crossroadsref03_May p0
   (c6 && (let c9 := F26_crossroadsref03_May q1
    (c9 && ((decide (p0.N ≤ q1.N)) && (F27_crossroadsref03_Has p0 q1.A))))))

/-- crossroads/addr.Common -/
def F19_addr_Common (p0 : TPrefix) (q1 : TPrefix) : TPrefix :=
  (let c7 := F17_addr_May p0
   (bif c7 then
     (let c11 := F17_addr_May q1
      (bif c11 then
        (let c24 := F38_bits_LeadingZeros32 (bit_xor .u32 p0.A q1.A)
         (let c29 := F16_addr_Mask (min_ (min_ p0.N q1.N) c24)
          (⟨bit_and .u32 p0.A c29, min_ (min_ p0.N q1.N) c24⟩ : TPrefix)))
      else
        (⟨0, 0⟩ : TPrefix)))
   else
     (⟨0, 0⟩ : TPrefix)))

def F30_crossroadsref03_Mask_l1 (n0 : Int) (fuel0 : Nat) (m3 : Int) (i4 : Int) : Option (Int × Int) :=
  match fuel0 with
  | 0 => none
  | fuel0 + 1 => (bif decide (i4 < 32) then
        (bif decide (i4 < n0) then
          F30_crossroadsref03_Mask_l1 n0 fuel0 (IntKind.u32.wrap ((IntKind.u32.wrap (m3 * 2)) + 1)) (IntKind.i64.wrap (i4 + 1))
        else
          F30_crossroadsref03_Mask_l1 n0 fuel0 (IntKind.u32.wrap (m3 * 2)) (IntKind.i64.wrap (i4 + 1)))
      else
        some (m3, i4))
/-- crossroads/crossroadsref03.Mask -/
def F30_crossroadsref03_Mask (n0 : Int) : Option Int :=
  (match F30_crossroadsref03_Mask_l1 n0 100 0 0 with
  | none => none
  | some (m3, i4) => some m3)

/-- crossroads/crossroadsref03.Of -/
def F24_crossroadsref03_Of (a0 : Int) (n1 : Int) : Option (TPrefix × Int) :=
  (bif decide (n1 < 0) then
    some ((⟨0, 0⟩ : TPrefix), 1)
  else
    (bif decide (32 < n1) then
      some ((⟨0, 0⟩ : TPrefix), 1)
    else
      ((match F30_crossroadsref03_Mask n1 with
       | none => none
       | some c15 => some ((⟨bit_and .u32 a0 c15, n1⟩ : TPrefix), 0)))))

def F20_crossroadsref03_Common_l1 (p0 : TPrefix) (q1 : TPrefix) (fuel0 : Nat) (n6 : Int) (best5 : TPrefix) : Option (Int × TPrefix) :=
  match fuel0 with
  | 0 => none
  | fuel0 + 1 => (bif decide (n6 ≤ 32) then
        ((match F24_crossroadsref03_Of p0.A n6 with
         | none => none
         | some (c27a, c27b) => 
           (let c32 := F18_crossroadsref03_Covers c27a p0
            (bif c32 then
              (let c36 := F18_crossroadsref03_Covers c27a q1
               (bif c36 then
                 F20_crossroadsref03_Common_l1 p0 q1 fuel0 (IntKind.i64.wrap (n6 + 1)) c27a
               else
                 F20_crossroadsref03_Common_l1 p0 q1 fuel0 (IntKind.i64.wrap (n6 + 1)) best5))
            else
              F20_crossroadsref03_Common_l1 p0 q1 fuel0 (IntKind.i64.wrap (n6 + 1)) best5))))
      else
        some (n6, best5))
/-- crossroads/crossroadsref03.Common -/
def F20_crossroadsref03_Common (p0 : TPrefix) (q1 : TPrefix) : Option TPrefix :=
  (let c10 := F26_crossroadsref03_May p0
   (bif c10 then
     (let c14 := F26_crossroadsref03_May q1
      (bif c14 then
        (match F20_crossroadsref03_Common_l1 p0 q1 100 0 (⟨0, 0⟩ : TPrefix) with
        | none => none
        | some (n6, best5) => some best5)
      else
        some (⟨0, 0⟩ : TPrefix)))
   else
     some (⟨0, 0⟩ : TPrefix)))

/-- crossroads/crossroadsref03.Less -/
def F21_crossroadsref03_Less (p0 : TPrefix) (q1 : TPrefix) : Bool :=
  ((decide (p0.A < q1.A)) || ((decide (p0.A = q1.A)) && (decide (p0.N < q1.N))))

/-- crossroads/crossroadslaw03.AddrPairs -/
def F6_crossroadslaw03_AddrPairs (p0 : TPrefix) (q1 : TPrefix) : Option Bool :=
  ((match F9_crossroadslaw03_alive with
   | none => none
   | some c5 => 
     (bif c5 then
       (let c9 := F14_addr_Covers p0 q1
        (let c12 := F18_crossroadsref03_Covers p0 q1
         (bif (c9 == c12) then
           (let c18 := F19_addr_Common p0 q1
            ((match F20_crossroadsref03_Common p0 q1 with
             | none => none
             | some c21 => 
               (bif (decide (c18.A = c21.A) && (decide (c18.N = c21.N) && true)) then
                 (let c27 := F13_addr_Less p0 q1
                  (let c30 := F21_crossroadsref03_Less p0 q1
                   some (c27 == c30)))
               else
                 some false))))
         else
           some false)))
     else
       some false)))

/-- crossroads/addr.Of -/
def F23_addr_Of (a0 : Int) (n1 : Int) : TPrefix × Int :=
  (let c7 := F39_addr_isLong n1
   (bif c7 then
     (let c12 := F16_addr_Mask n1
      ((⟨bit_and .u32 a0 c12, n1⟩ : TPrefix), 0))
   else
     ((⟨0, 0⟩ : TPrefix), 1)))

/-- crossroads/crossroadslaw03.AddrBlocks -/
def F7_crossroadslaw03_AddrBlocks (p0 : TPrefix) (q1 : TPrefix) (a2 : Int) : Option Bool :=
  (let c11 := F17_addr_May p0
   (bif c11 then
     (let c15 := F17_addr_May q1
      (bif c15 then
        (let c27 := F22_addr_Has p0 a2
         (bif c27 then
           (let c31 := F22_addr_Has q1 a2
            (bif c31 then
              (let c36 := F14_addr_Covers p0 q1
               (bif c36 then
                 ((((let c61 := F19_addr_Common p0 q1
                     (match F23_addr_Of p0.A (IntKind.i64.wrap (c61.N + 1)) with
                      | (c68a, c68b) => (bif decide (c68b = 0) then
                          (let c76 := F14_addr_Covers c68a p0
                           (bif c76 then
                             (let c81 := F14_addr_Covers c68a q1
                              (bif c81 then
                                some false
                              else
                                ((match F9_crossroadslaw03_alive with
                                 | none => none
                                 | some c83 => 
                                   (bif c83 then
                                     (let c87 := F14_addr_Covers c61 p0
                                      (bif c87 then
                                        (let c92 := F14_addr_Covers c61 q1
                                         (bif c92 then
                                           some (c36 == (decide (c61.A = p0.A) && (decide (c61.N = p0.N) && true)))
                                         else
                                           some false))
                                      else
                                        some false))
                                   else
                                     some false)))))
                           else
                             ((match F9_crossroadslaw03_alive with
                              | none => none
                              | some c83 => 
                                (bif c83 then
                                  (let c87 := F14_addr_Covers c61 p0
                                   (bif c87 then
                                     (let c92 := F14_addr_Covers c61 q1
                                      (bif c92 then
                                        some (c36 == (decide (c61.A = p0.A) && (decide (c61.N = p0.N) && true)))
                                      else
                                        some false))
                                   else
                                     some false))
                                else
                                  some false)))))
                        else
                          ((match F9_crossroadslaw03_alive with
                           | none => none
                           | some c83 => 
                             (bif c83 then
                               (let c87 := F14_addr_Covers c61 p0
                                (bif c87 then
                                  (let c92 := F14_addr_Covers c61 q1
                                   (bif c92 then
                                     some (c36 == (decide (c61.A = p0.A) && (decide (c61.N = p0.N) && true)))
                                   else
                                     some false))
                                else
                                  some false))
                             else
                               some false)))))))))
               else
                 (let c42 := F14_addr_Covers q1 p0
                  (bif c42 then
                    ((let c61 := F19_addr_Common p0 q1
                      (match F23_addr_Of p0.A (IntKind.i64.wrap (c61.N + 1)) with
                       | (c68a, c68b) => (bif decide (c68b = 0) then
                           (let c76 := F14_addr_Covers c68a p0
                            (bif c76 then
                              (let c81 := F14_addr_Covers c68a q1
                               (bif c81 then
                                 some false
                               else
                                 ((match F9_crossroadslaw03_alive with
                                  | none => none
                                  | some c83 => 
                                    (bif c83 then
                                      (let c87 := F14_addr_Covers c61 p0
                                       (bif c87 then
                                         (let c92 := F14_addr_Covers c61 q1
                                          (bif c92 then
                                            some (c36 == (decide (c61.A = p0.A) && (decide (c61.N = p0.N) && true)))
                                          else
                                            some false))
                                       else
                                         some false))
                                    else
                                      some false)))))
                            else
                              ((match F9_crossroadslaw03_alive with
                               | none => none
                               | some c83 => 
                                 (bif c83 then
                                   (let c87 := F14_addr_Covers c61 p0
                                    (bif c87 then
                                      (let c92 := F14_addr_Covers c61 q1
                                       (bif c92 then
                                         some (c36 == (decide (c61.A = p0.A) && (decide (c61.N = p0.N) && true)))
                                       else
                                         some false))
                                    else
                                      some false))
                                 else
                                   some false)))))
                         else
                           ((match F9_crossroadslaw03_alive with
                            | none => none
                            | some c83 => 
                              (bif c83 then
                                (let c87 := F14_addr_Covers c61 p0
                                 (bif c87 then
                                   (let c92 := F14_addr_Covers c61 q1
                                    (bif c92 then
                                      some (c36 == (decide (c61.A = p0.A) && (decide (c61.N = p0.N) && true)))
                                    else
                                      some false))
                                 else
                                   some false))
                              else
                                some false)))))))
                  else
                    some false))))
            else
              (let c47 := F14_addr_Covers p0 q1
               (bif c47 then
                 ((let c61 := F19_addr_Common p0 q1
                   (match F23_addr_Of p0.A (IntKind.i64.wrap (c61.N + 1)) with
                    | (c68a, c68b) => (bif decide (c68b = 0) then
                        (let c76 := F14_addr_Covers c68a p0
                         (bif c76 then
                           (let c81 := F14_addr_Covers c68a q1
                            (bif c81 then
                              some false
                            else
                              ((match F9_crossroadslaw03_alive with
                               | none => none
                               | some c83 => 
                                 (bif c83 then
                                   (let c87 := F14_addr_Covers c61 p0
                                    (bif c87 then
                                      (let c92 := F14_addr_Covers c61 q1
                                       (bif c92 then
                                         some (c47 == (decide (c61.A = p0.A) && (decide (c61.N = p0.N) && true)))
                                       else
                                         some false))
                                    else
                                      some false))
                                 else
                                   some false)))))
                         else
                           ((match F9_crossroadslaw03_alive with
                            | none => none
                            | some c83 => 
                              (bif c83 then
                                (let c87 := F14_addr_Covers c61 p0
                                 (bif c87 then
                                   (let c92 := F14_addr_Covers c61 q1
                                    (bif c92 then
                                      some (c47 == (decide (c61.A = p0.A) && (decide (c61.N = p0.N) && true)))
                                    else
                                      some false))
                                 else
                                   some false))
                              else
                                some false)))))
                      else
                        ((match F9_crossroadslaw03_alive with
                         | none => none
                         | some c83 => 
                           (bif c83 then
                             (let c87 := F14_addr_Covers c61 p0
                              (bif c87 then
                                (let c92 := F14_addr_Covers c61 q1
                                 (bif c92 then
                                   some (c47 == (decide (c61.A = p0.A) && (decide (c61.N = p0.N) && true)))
                                 else
                                   some false))
                              else
                                some false))
                           else
                             some false)))))))
               else
                 (let c61 := F19_addr_Common p0 q1
                  (match F23_addr_Of p0.A (IntKind.i64.wrap (c61.N + 1)) with
                   | (c68a, c68b) => (bif decide (c68b = 0) then
                       (let c76 := F14_addr_Covers c68a p0
                        (bif c76 then
                          (let c81 := F14_addr_Covers c68a q1
                           (bif c81 then
                             some false
                           else
                             ((match F9_crossroadslaw03_alive with
                              | none => none
                              | some c83 => 
                                (bif c83 then
                                  (let c87 := F14_addr_Covers c61 p0
                                   (bif c87 then
                                     (let c92 := F14_addr_Covers c61 q1
                                      (bif c92 then
                                        some (c47 == (decide (c61.A = p0.A) && (decide (c61.N = p0.N) && true)))
                                      else
                                        some false))
                                   else
                                     some false))
                                else
                                  some false)))))
                        else
                          ((match F9_crossroadslaw03_alive with
                           | none => none
                           | some c83 => 
                             (bif c83 then
                               (let c87 := F14_addr_Covers c61 p0
                                (bif c87 then
                                  (let c92 := F14_addr_Covers c61 q1
                                   (bif c92 then
                                     some (c47 == (decide (c61.A = p0.A) && (decide (c61.N = p0.N) && true)))
                                   else
                                     some false))
                                else
                                  some false))
                             else
                               some false)))))
                     else
                       ((match F9_crossroadslaw03_alive with
                        | none => none
                        | some c83 => 
                          (bif c83 then
                            (let c87 := F14_addr_Covers c61 p0
                             (bif c87 then
                               (let c92 := F14_addr_Covers c61 q1
                                (bif c92 then
                                  some (c47 == (decide (c61.A = p0.A) && (decide (c61.N = p0.N) && true)))
                                else
                                  some false))
                             else
                               some false))
                          else
                            some false))))))))))
         else
           (let c47 := F14_addr_Covers p0 q1
            (bif c47 then
              (let c51 := F22_addr_Has q1 a2
               (bif c51 then
                 some false
               else
                 (let c61 := F19_addr_Common p0 q1
                  (match F23_addr_Of p0.A (IntKind.i64.wrap (c61.N + 1)) with
                   | (c68a, c68b) => (bif decide (c68b = 0) then
                       (let c76 := F14_addr_Covers c68a p0
                        (bif c76 then
                          (let c81 := F14_addr_Covers c68a q1
                           (bif c81 then
                             some false
                           else
                             ((match F9_crossroadslaw03_alive with
                              | none => none
                              | some c83 => 
                                (bif c83 then
                                  (let c87 := F14_addr_Covers c61 p0
                                   (bif c87 then
                                     (let c92 := F14_addr_Covers c61 q1
                                      (bif c92 then
                                        some (c47 == (decide (c61.A = p0.A) && (decide (c61.N = p0.N) && true)))
                                      else
                                        some false))
                                   else
                                     some false))
                                else
                                  some false)))))
                        else
                          ((match F9_crossroadslaw03_alive with
                           | none => none
                           | some c83 => 
                             (bif c83 then
                               (let c87 := F14_addr_Covers c61 p0
                                (bif c87 then
                                  (let c92 := F14_addr_Covers c61 q1
                                   (bif c92 then
                                     some (c47 == (decide (c61.A = p0.A) && (decide (c61.N = p0.N) && true)))
                                   else
                                     some false))
                                else
                                  some false))
                             else
                               some false)))))
                     else
                       ((match F9_crossroadslaw03_alive with
                        | none => none
                        | some c83 => 
                          (bif c83 then
                            (let c87 := F14_addr_Covers c61 p0
                             (bif c87 then
                               (let c92 := F14_addr_Covers c61 q1
                                (bif c92 then
                                  some (c47 == (decide (c61.A = p0.A) && (decide (c61.N = p0.N) && true)))
                                else
                                  some false))
                             else
                               some false))
                          else
                            some false))))))))
            else
              (let c61 := F19_addr_Common p0 q1
               (match F23_addr_Of p0.A (IntKind.i64.wrap (c61.N + 1)) with
                | (c68a, c68b) => (bif decide (c68b = 0) then
                    (let c76 := F14_addr_Covers c68a p0
                     (bif c76 then
                       (let c81 := F14_addr_Covers c68a q1
                        (bif c81 then
                          some false
                        else
                          ((match F9_crossroadslaw03_alive with
                           | none => none
                           | some c83 => 
                             (bif c83 then
                               (let c87 := F14_addr_Covers c61 p0
                                (bif c87 then
                                  (let c92 := F14_addr_Covers c61 q1
                                   (bif c92 then
                                     some (c47 == (decide (c61.A = p0.A) && (decide (c61.N = p0.N) && true)))
                                   else
                                     some false))
                                else
                                  some false))
                             else
                               some false)))))
                     else
                       ((match F9_crossroadslaw03_alive with
                        | none => none
                        | some c83 => 
                          (bif c83 then
                            (let c87 := F14_addr_Covers c61 p0
                             (bif c87 then
                               (let c92 := F14_addr_Covers c61 q1
                                (bif c92 then
                                  some (c47 == (decide (c61.A = p0.A) && (decide (c61.N = p0.N) && true)))
                                else
                                  some false))
                             else
                               some false))
                          else
                            some false)))))
                  else
                    ((match F9_crossroadslaw03_alive with
                     | none => none
                     | some c83 => 
                       (bif c83 then
                         (let c87 := F14_addr_Covers c61 p0
                          (bif c87 then
                            (let c92 := F14_addr_Covers c61 q1
                             (bif c92 then
                               some (c47 == (decide (c61.A = p0.A) && (decide (c61.N = p0.N) && true)))
                             else
                               some false))
                          else
                            some false))
                       else
                         some false))))))))))
      else
        ((match F9_crossroadslaw03_alive with
         | none => none
         | some c18 => 
           (bif c18 then
             (let c22 := F14_addr_Covers p0 q1
              some (!c22))
           else
             some false)))))
   else
     ((match F9_crossroadslaw03_alive with
      | none => none
      | some c18 => 
        (bif c18 then
          (let c22 := F14_addr_Covers p0 q1
           some (!c22))
        else
          some false)))))

def F25_crossroadsref03_Long_l1 (mask0 : Int) (fuel0 : Nat) (n4 : Int) : Option (Except (Int × Int) Int) :=
  match fuel0 with
  | 0 => none
  | fuel0 + 1 => (bif decide (n4 ≤ 32) then
        ((match F30_crossroadsref03_Mask n4 with
         | none => none
         | some c10 => (bif decide (c10 = mask0) then some (.error ((n4, 0))) else F25_crossroadsref03_Long_l1 mask0 fuel0 (IntKind.i64.wrap (n4 + 1)))))
      else
        some (.ok n4))
/-- crossroads/crossroadsref03.Long -/
def F25_crossroadsref03_Long (mask0 : Int) : Option (Int × Int) :=
  (match F25_crossroadsref03_Long_l1 mask0 100 0 with
  | none => none
  | some (.error r) => some r
  | some (.ok n4) => some (0, 3))

/-- crossroads/addr.Bit -/
def F28_addr_Bit (a0 : Int) (i1 : Int) : Int :=
  (bif decide (i1 < 0) then
    0
  else
    (bif decide (32 ≤ i1) then 0 else IntKind.i64.wrap (bit_and .u32 (shr_ .u32 a0 (IntKind.i64.wrap (31 - i1))) 1)))

def F40_crossroadsref03_decimal_l1  (fuel0 : Nat) (u4 : Int) (s5 : ByteArray) : Option (Int × ByteArray) :=
  match fuel0 with
  | 0 => none
  | fuel0 + 1 => (bif decide (10 ≤ u4) then
        (bif decide ((strNums ([IntKind.u8.wrap (IntKind.u64.wrap (48 + (Int.tmod (IntKind.u64.wrap (Int.tdiv u4 10)) 10)))] : List Int)).size + s5.size ≤ 9223372036854775807) then
          F40_crossroadsref03_decimal_l1 fuel0 (IntKind.u64.wrap (Int.tdiv u4 10)) ((strNums ([IntKind.u8.wrap (IntKind.u64.wrap (48 + (Int.tmod (IntKind.u64.wrap (Int.tdiv u4 10)) 10)))] : List Int)) ++ s5)
        else none)
      else
        some (u4, s5))
/-- crossroads/crossroadsref03.decimal -/
def F40_crossroadsref03_decimal (n0 : Int) : Option ByteArray :=
  (bif decide (n0 < 0) then
    (match F40_crossroadsref03_decimal_l1 100 (IntKind.u64.wrap (-(IntKind.u64.wrap n0))) (strNums ([IntKind.u8.wrap (IntKind.u64.wrap (48 + (Int.tmod (IntKind.u64.wrap (-(IntKind.u64.wrap n0))) 10)))] : List Int)) with
    | none => none
    | some (u4, s5) => 
      (bif decide ((bstr [45]).size + s5.size ≤ 9223372036854775807) then
        some ((bstr [45]) ++ s5)
      else none))
  else
    (match F40_crossroadsref03_decimal_l1 100 (IntKind.u64.wrap n0) (strNums ([IntKind.u8.wrap (IntKind.u64.wrap (48 + (Int.tmod (IntKind.u64.wrap n0) 10)))] : List Int)) with
    | none => none
    | some (u4, s5) => some s5))

def F31_crossroadsref03_Text_l1 (p0 : TPrefix) (fuel0 : Nat) (s3 : ByteArray) (i4 : Int) : Option (ByteArray × Int) :=
  match fuel0 with
  | 0 => none
  | fuel0 + 1 => (bif decide (i4 < 4) then
        (bif decide (0 < i4) then
          (bif decide (s3.size + (bstr [46]).size ≤ 9223372036854775807) then
            ((match F40_crossroadsref03_decimal (IntKind.i64.wrap (bit_and .u32 (shr_ .u32 p0.A (IntKind.u64.wrap (IntKind.i64.wrap (24 - (IntKind.i64.wrap (8 * i4)))))) 255)) with
             | none => none
             | some c23 => 
               (bif decide ((s3 ++ (bstr [46])).size + c23.size ≤ 9223372036854775807) then
                 F31_crossroadsref03_Text_l1 p0 fuel0 ((s3 ++ (bstr [46])) ++ c23) (IntKind.i64.wrap (i4 + 1))
               else none)))
          else none)
        else
          ((match F40_crossroadsref03_decimal (IntKind.i64.wrap (bit_and .u32 (shr_ .u32 p0.A (IntKind.u64.wrap (IntKind.i64.wrap (24 - (IntKind.i64.wrap (8 * i4)))))) 255)) with
           | none => none
           | some c23 => 
             (bif decide (s3.size + c23.size ≤ 9223372036854775807) then
               F31_crossroadsref03_Text_l1 p0 fuel0 (s3 ++ c23) (IntKind.i64.wrap (i4 + 1))
             else none))))
      else
        some (s3, i4))
/-- crossroads/crossroadsref03.Text -/
def F31_crossroadsref03_Text (p0 : TPrefix) : Option ByteArray :=
  (match F31_crossroadsref03_Text_l1 p0 100 (bstr []) 0 with
  | none => none
  | some (s3, i4) => 
    (bif decide (s3.size + (bstr [47]).size ≤ 9223372036854775807) then
      ((match F40_crossroadsref03_decimal p0.N with
       | none => none
       | some c29 => 
         (bif decide ((s3 ++ (bstr [47])).size + c29.size ≤ 9223372036854775807) then
           some ((s3 ++ (bstr [47])) ++ c29)
         else none)))
    else none))

/-- crossroads/crossroadslaw03.AddrTold -/
def F8_crossroadslaw03_AddrTold (p0 : TPrefix) (a1 : Int) (i2 : Int) : Option Bool :=
  (match F23_addr_Of a1 i2 with
   | (c18a, c18b) => ((match F24_crossroadsref03_Of a1 i2 with
      | none => none
      | some (c24a, c24b) => 
        (match F15_addr_Long a1 with
         | (c29a, c29b) => ((match F25_crossroadsref03_Long a1 with
            | none => none
            | some (c34a, c34b) => 
              ((match F9_crossroadslaw03_alive with
               | none => none
               | some c37 => 
                 (bif c37 then
                   (let c40 := F17_addr_May p0
                    (let c42 := F26_crossroadsref03_May p0
                     (bif (c40 == c42) then
                       (let c48 := F22_addr_Has p0 a1
                        (let c51 := F27_crossroadsref03_Has p0 a1
                         (bif (c48 == c51) then
                           (bif (decide (c18a.A = c24a.A) && (decide (c18a.N = c24a.N) && true)) then
                             (bif decide (c18b = c24b) then
                               (let c67 := F28_addr_Bit a1 i2
                                (let c70 := F29_crossroadsref03_Bit a1 i2
                                 (bif decide (c67 = c70) then
                                   (let c75 := F16_addr_Mask i2
                                    ((match F30_crossroadsref03_Mask i2 with
                                     | none => none
                                     | some c77 => 
                                       (bif decide (c75 = c77) then
                                         (bif decide (c29a = c34a) then
                                           (bif decide (c29b = c34b) then
                                             ((match F12_addr_Text p0 with
                                              | none => none
                                              | some c92 => 
                                                ((match F31_crossroadsref03_Text p0 with
                                                 | none => none
                                                 | some c94 => some (c92.toList == c94.toList)))))
                                           else
                                             some false)
                                         else
                                           some false)
                                       else
                                         some false))))
                                 else
                                   some false)))
                             else
                               some false)
                           else
                             some false)
                         else
                           some false)))
                     else
                       some false)))
                 else
                   some false)))))))))

end Go.Proofs.YtkdhongicibhbaaDoor.Abs

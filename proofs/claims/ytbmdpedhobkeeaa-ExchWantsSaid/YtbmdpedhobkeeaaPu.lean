/- The functions of the program as Lean functions (printed by this work's own program gen.py). -/
import Derived.Test.YtbmdpedhobkeeaaP0
set_option linter.unusedVariables false
set_option maxRecDepth 100000
namespace Go.Proofs.Ytbmdpedhobkeeaa.Abs
open Go

structure THeader where
  Age : Int
  Options : Int
  Typef : Int
  ID : Int
  Adv : Int
  Seq : Int
  Sum : Int
  Long : Int
  deriving DecidableEq, Inhabited
structure TAd where
  H : THeader
  B : List Int
  deriving DecidableEq, Inhabited
structure TStore where
  Max : Int
  L : List TAd
  Over : Bool
  deriving DecidableEq, Inhabited
structure TDesc where
  MTU : Int
  Options : Int
  Init : Bool
  More : Bool
  Master : Bool
  Seq : Int
  Heads : List THeader
  deriving DecidableEq, Inhabited
structure TSession where
  Own : Int
  Peer : Int
  Phase : Int
  Leads : Bool
  Seq : Int
  Left : List THeader
  Got : List THeader
  Last : TDesc
  deriving DecidableEq, Inhabited
structure TTalk where
  Session : TSession
  out : TDesc
  sent : Bool
  e : Int
  deriving DecidableEq, Inhabited
structure TLink where
  Kind : Int
  ID : Int
  Data : Int
  Cost : Int
  deriving DecidableEq, Inhabited
structure TRouterBody where
  Flags : Int
  Links : List TLink
  deriving DecidableEq, Inhabited
structure TNetworkBody where
  Mask : Int
  Routers : List Int
  deriving DecidableEq, Inhabited
structure TSummaryBody where
  Mask : Int
  Cost : Int
  deriving DecidableEq, Inhabited
structure TExternalBody where
  Mask : Int
  Second : Bool
  Cost : Int
  Forward : Int
  Tag : Int
  deriving DecidableEq, Inhabited
structure TKey where
  Typef : Int
  ID : Int
  Adv : Int
  deriving DecidableEq, Inhabited

/-- crossroads/exch.Open -/
def F9_exch_Open (own0 : Int) (peer1 : Int) (seq2 : Int) (heads3 : List THeader) : Option (TSession × TDesc) :=
  (bif decide (heads3.length < 1099511627776) then
    some ((⟨own0, peer1, 0, false, seq2, heads3, ([] : List THeader), (⟨1500, 2, true, true, true, seq2, ([] : List THeader)⟩ : TDesc)⟩ : TSession), (⟨1500, 2, true, true, true, seq2, ([] : List THeader)⟩ : TDesc))
  else none)

/-- (*crossroads/exch.talk).send -/
def F65_exch_talk_send (t0 : TTalk) (d1 : TDesc) : TTalk :=
  (⟨(⟨t0.Session.Own, t0.Session.Peer, t0.Session.Phase, t0.Session.Leads, t0.Session.Seq, t0.Session.Left, t0.Session.Got, d1⟩ : TSession), d1, true, t0.e⟩ : TTalk)

/-- (*crossroads/exch.talk).page -/
def F63_exch_talk_page (t0 : TTalk) : Option TTalk :=
  (bif decide ((0 : Int) ≤ min_ 10 (t0.Session.Left.length : Int)) then
    (bif decide (min_ 10 (t0.Session.Left.length : Int) ≤ (t0.Session.Left.length : Int)) then
      (bif decide ((t0.Session.Left.take (min_ 10 (t0.Session.Left.length : Int)).toNat).length < 1099511627776) then
        (bif decide ((t0.Session.Left.drop (min_ 10 (t0.Session.Left.length : Int)).toNat).length < 1099511627776) then
          (let c52 := F65_exch_talk_send (⟨(⟨t0.Session.Own, t0.Session.Peer, t0.Session.Phase, t0.Session.Leads, t0.Session.Seq, (t0.Session.Left.drop (min_ 10 (t0.Session.Left.length : Int)).toNat), t0.Session.Got, t0.Session.Last⟩ : TSession), t0.out, t0.sent, t0.e⟩ : TTalk) (⟨1500, 2, false, decide (min_ 10 (t0.Session.Left.length : Int) < (t0.Session.Left.length : Int)), t0.Session.Leads, t0.Session.Seq, (t0.Session.Left.take (min_ 10 (t0.Session.Left.length : Int)).toNat)⟩ : TDesc)
           some c52)
        else none)
      else none)
    else none)
  else none)

/-- (*crossroads/exch.talk).take -/
def F64_exch_talk_take (t0 : TTalk) (d1 : TDesc) : Option TTalk :=
  (bif decide (t0.Session.Got.length < 1099511627776) then
    (bif decide (d1.Heads.length < 1099511627776) then
      some (⟨(⟨t0.Session.Own, t0.Session.Peer, t0.Session.Phase, t0.Session.Leads, t0.Session.Seq, t0.Session.Left, (t0.Session.Got ++ d1.Heads), t0.Session.Last⟩ : TSession), t0.out, t0.sent, t0.e⟩ : TTalk)
    else none)
  else none)

/-- (*crossroads/exch.talk).lead -/
def F46_exch_talk_lead (t0 : TTalk) (d1 : TDesc) : Option TTalk :=
  (bif decide (d1.Seq = IntKind.u32.wrap (t0.Session.Seq - 1)) then
    some t0
  else
    (bif decide (d1.Seq = t0.Session.Seq) then
      (bif decide (t0.Session.Phase = 2) then
        some t0
      else
        ((match F64_exch_talk_take t0 d1 with
         | none => none
         | some c46 => 
           (bif c46.Session.Last.More then
             F63_exch_talk_page (⟨(⟨c46.Session.Own, c46.Session.Peer, c46.Session.Phase, c46.Session.Leads, IntKind.u32.wrap (c46.Session.Seq + 1), c46.Session.Left, c46.Session.Got, c46.Session.Last⟩ : TSession), c46.out, c46.sent, c46.e⟩ : TTalk)
           else
             (bif d1.More then
               F63_exch_talk_page (⟨(⟨c46.Session.Own, c46.Session.Peer, c46.Session.Phase, c46.Session.Leads, IntKind.u32.wrap (c46.Session.Seq + 1), c46.Session.Left, c46.Session.Got, c46.Session.Last⟩ : TSession), c46.out, c46.sent, c46.e⟩ : TTalk)
             else
               some (⟨(⟨c46.Session.Own, c46.Session.Peer, 2, c46.Session.Leads, c46.Session.Seq, c46.Session.Left, c46.Session.Got, c46.Session.Last⟩ : TSession), c46.out, c46.sent, c46.e⟩ : TTalk))))))
    else
      some (⟨t0.Session, t0.out, t0.sent, 13⟩ : TTalk)))

/-- (*crossroads/exch.talk).begin -/
def F44_exch_talk_begin (t0 : TTalk) (d1 : TDesc) : Option TTalk :=
  (bif d1.Init then
    (bif d1.More then
      (bif d1.Master then
        (bif decide ((d1.Heads.length : Int) = 0) then
          (bif decide (t0.Session.Own < t0.Session.Peer) then
            F63_exch_talk_page (⟨(⟨t0.Session.Own, t0.Session.Peer, 1, t0.Session.Leads, d1.Seq, t0.Session.Left, t0.Session.Got, t0.Session.Last⟩ : TSession), t0.out, t0.sent, t0.e⟩ : TTalk)
          else
            some t0)
        else
          some t0)
      else
        some t0)
    else
      some t0)
  else
    (bif d1.Master then
      some t0
    else
      (bif decide (d1.Seq = t0.Session.Seq) then
        (bif decide (t0.Session.Peer < t0.Session.Own) then
          F46_exch_talk_lead (⟨(⟨t0.Session.Own, t0.Session.Peer, 1, true, t0.Session.Seq, t0.Session.Left, t0.Session.Got, t0.Session.Last⟩ : TSession), t0.out, t0.sent, t0.e⟩ : TTalk) d1
        else
          some t0)
      else
        some t0)))

/-- (*crossroads/exch.talk).hears$1 -/
def F45_exch_talk_hears_1 (a0 : TDesc) (a1 : TTalk) : TTalk :=
  (⟨a1.Session, a1.out, a1.sent, 13⟩ : TTalk)

/-- (*crossroads/exch.talk).follow -/
def F47_exch_talk_follow (t0 : TTalk) (d1 : TDesc) : Option TTalk :=
  (bif decide (d1.Seq = t0.Session.Seq) then
    (let c19 := F65_exch_talk_send t0 t0.Session.Last
     some c19)
  else
    (bif decide (d1.Seq = IntKind.u32.wrap (t0.Session.Seq + 1)) then
      (bif decide (t0.Session.Phase = 2) then
        some (⟨t0.Session, t0.out, t0.sent, 13⟩ : TTalk)
      else
        ((match F64_exch_talk_take t0 d1 with
         | none => none
         | some c43 => 
           ((match F63_exch_talk_page (⟨(⟨c43.Session.Own, c43.Session.Peer, c43.Session.Phase, c43.Session.Leads, d1.Seq, c43.Session.Left, c43.Session.Got, c43.Session.Last⟩ : TSession), c43.out, c43.sent, c43.e⟩ : TTalk) with
            | none => none
            | some c51 => 
              (bif d1.More then
                some c51
              else
                (bif c51.out.More then
                  some c51
                else
                  some (⟨(⟨c51.Session.Own, c51.Session.Peer, 2, c51.Session.Leads, c51.Session.Seq, c51.Session.Left, c51.Session.Got, c51.Session.Last⟩ : TSession), c51.out, c51.sent, c51.e⟩ : TTalk))))))))
    else
      some (⟨t0.Session, t0.out, t0.sent, 13⟩ : TTalk)))

/-- (*crossroads/exch.talk).hears -/
def F28_exch_talk_hears (t0 : TTalk) (d1 : TDesc) : Option (Lf4 × TTalk) :=
  (bif decide (t0.Session.Phase = 0) then
    some (.l3, t0)
  else
    (bif d1.Init then
      some (.l2, t0)
    else
      (bif (d1.Master == t0.Session.Leads) then some (.l2, t0) else (bif t0.Session.Leads then some (.l1, t0) else some (.l0, t0)))))
/-- The function values that it returns. -/
def fv28 : Lf4 → PVal
  | .l0 => .fn 47 [.ptr 0 0] []
  | .l1 => .fn 46 [.ptr 0 0] []
  | .l2 => .fn 45 [] [.ptr 1 0]
  | .l3 => .fn 44 [.ptr 0 0] []

/-- crossroads/exch.Hear -/
def F15_exch_Hear (s0 : TSession) (d1 : TDesc) : Option (TSession × TDesc × Bool × Int) :=
  (match F28_exch_talk_hears (⟨s0, (⟨0, 0, false, false, false, 0, ([] : List THeader)⟩ : TDesc), false, 0⟩ : TTalk) d1 with
  | none => none
  | some (c14a, c14b) => 
    match c14a with
    | .l0 => ((match F47_exch_talk_follow c14b d1 with
       | none => none
       | some c16 => 
         (bif decide (c16.e = 0) then
           some (c16.Session, c16.out, c16.sent, 0)
         else
           some (s0, (⟨0, 0, false, false, false, 0, ([] : List THeader)⟩ : TDesc), false, c16.e))))
    | .l1 => ((match F46_exch_talk_lead c14b d1 with
       | none => none
       | some c16 => 
         (bif decide (c16.e = 0) then
           some (c16.Session, c16.out, c16.sent, 0)
         else
           some (s0, (⟨0, 0, false, false, false, 0, ([] : List THeader)⟩ : TDesc), false, c16.e))))
    | .l2 => (let c16 := F45_exch_talk_hears_1 d1 c14b
       (bif decide (c16.e = 0) then
         some (c16.Session, c16.out, c16.sent, 0)
       else
         some (s0, (⟨0, 0, false, false, false, 0, ([] : List THeader)⟩ : TDesc), false, c16.e)))
    | .l3 => ((match F44_exch_talk_begin c14b d1 with
       | none => none
       | some c16 => 
         (bif decide (c16.e = 0) then
           some (c16.Session, c16.out, c16.sent, 0)
         else
           some (s0, (⟨0, 0, false, false, false, 0, ([] : List THeader)⟩ : TDesc), false, c16.e)))))

/-- crossroads/crossroadslaw17.alive -/
def F8_crossroadslaw17_alive : Option Bool :=
  ((match F9_exch_Open 1 2 5 ([] : List THeader) with
   | none => none
   | some (c16a, c16b) => 
     ((match F9_exch_Open 2 1 7 ([] : List THeader) with
      | none => none
      | some (c20a, c20b) => 
        ((match F15_exch_Hear c16a c20b with
         | none => none
         | some (c26a, c26b, c26c, c26d) => 
           ((match F15_exch_Hear c20a c16b with
            | none => none
            | some (c34a, c34b, c34c, c34d) => 
              ((match F15_exch_Hear c20a c26b with
               | none => none
               | some (c42a, c42b, c42c, c42d) => 
                 (bif c26c then
                   (bif c34c then
                     some false
                   else
                     (bif decide (c42d = 0) then
                       (bif decide (c26a.Phase = 1) then
                         (bif decide (c42a.Phase = 1) then (bif c42a.Leads then some (decide (c26b.Seq = 7)) else some false) else some false)
                       else
                         some false)
                     else
                       some false))
                 else
                   some false)))))))))))

/-- crossroads/crossroadsref11.two -/
def F66_crossroadsref11_two (n0 : Int) : (List Int) :=
  ([IntKind.u8.wrap (IntKind.i64.wrap (Int.tdiv n0 256)), IntKind.u8.wrap (Int.tmod n0 256)] : List Int)

/-- crossroads/crossroadsref01.Four -/
def F67_crossroadsref01_Four (n0 : Int) : (List Int) :=
  ([IntKind.u8.wrap (Int.fdiv n0 (2 ^ 24)), IntKind.u8.wrap (Int.fdiv n0 (2 ^ 16)), IntKind.u8.wrap (Int.fdiv n0 (2 ^ 8)), IntKind.u8.wrap n0] : List Int)

/-- crossroads/crossroadsref11.raw -/
def F49_crossroadsref11_raw (h0 : THeader) : Option (List Int) :=
  (let c6 := F66_crossroadsref11_two h0.Age
   (bif decide ((c6 ++ ([IntKind.u8.wrap h0.Options, IntKind.u8.wrap h0.Typef] : List Int)).length ≤ 140737488355328) then
     (let c18 := F67_crossroadsref01_Four h0.ID
      (bif decide (((c6 ++ ([IntKind.u8.wrap h0.Options, IntKind.u8.wrap h0.Typef] : List Int)) ++ c18).length ≤ 140737488355328) then
        (let c23 := F67_crossroadsref01_Four h0.Adv
         (bif decide ((((c6 ++ ([IntKind.u8.wrap h0.Options, IntKind.u8.wrap h0.Typef] : List Int)) ++ c18) ++ c23).length ≤ 140737488355328) then
           (let c28 := F67_crossroadsref01_Four h0.Seq
            (bif decide (((((c6 ++ ([IntKind.u8.wrap h0.Options, IntKind.u8.wrap h0.Typef] : List Int)) ++ c18) ++ c23) ++ c28).length ≤ 140737488355328) then
              (let c33 := F66_crossroadsref11_two h0.Sum
               (bif decide ((((((c6 ++ ([IntKind.u8.wrap h0.Options, IntKind.u8.wrap h0.Typef] : List Int)) ++ c18) ++ c23) ++ c28) ++ c33).length ≤ 140737488355328) then
                 (let c38 := F66_crossroadsref11_two h0.Long
                  (bif decide (((((((c6 ++ ([IntKind.u8.wrap h0.Options, IntKind.u8.wrap h0.Typef] : List Int)) ++ c18) ++ c23) ++ c28) ++ c33) ++ c38).length ≤ 140737488355328) then
                    some ((((((c6 ++ ([IntKind.u8.wrap h0.Options, IntKind.u8.wrap h0.Typef] : List Int)) ++ c18) ++ c23) ++ c28) ++ c33) ++ c38)
                  else none))
               else none))
            else none))
         else none))
      else none))
   else none))

/-- crossroads/crossroadsref11.May -/
def F68_crossroadsref11_May (h0 : THeader) : Bool :=
  ((decide (0 ≤ h0.Age)) && ((decide (h0.Age ≤ 3600)) && ((decide (0 ≤ h0.Options)) && ((decide (h0.Options ≤ 255)) && ((decide (1 ≤ h0.Typef)) && ((decide (h0.Typef ≤ 7)) && (bif decide (h0.Typef = 6) then
    false
  else
    ((decide (0 ≤ h0.Sum)) && ((decide (h0.Sum ≤ 65535)) && ((decide (20 ≤ h0.Long)) && (decide (h0.Long ≤ 1400))))))))))))

/-- crossroads/crossroadsref11.MayAd -/
def F50_crossroadsref11_MayAd (a0 : TAd) : Bool :=
  (let c5 := F68_crossroadsref11_May a0.H
   (c5 && (decide (a0.H.Long = IntKind.i64.wrap (20 + (a0.B.length : Int))))))

def F69_crossroadsref02_Pair_l1  : (c4 : Int) → (d5 : Int) → List Int → Int × Int
  | c4, d5, [] => (c4, d5)
  | c4, d5, x6 :: l6 => F69_crossroadsref02_Pair_l1 (Int.tmod (IntKind.i64.wrap (c4 + (IntKind.i64.wrap x6))) 255) (Int.tmod (IntKind.i64.wrap (d5 + (Int.tmod (IntKind.i64.wrap (c4 + (IntKind.i64.wrap x6))) 255))) 255) l6
/-- crossroads/crossroadsref02.Pair -/
def F69_crossroadsref02_Pair (b0 : List Int) : Int × Int :=
  F69_crossroadsref02_Pair_l1 0 0 b0

/-- crossroads/crossroadsref02.Fits -/
def F51_crossroadsref02_Fits (b0 : List Int) : Bool :=
  (match F69_crossroadsref02_Pair b0 with
   | (c7a, c7b) => ((decide (c7a = 0)) && (decide (c7b = 0))))

/-- crossroads/crossroadsref11.Whole -/
def F35_crossroadsref11_Whole (a0 : TAd) : Option Bool :=
  ((match F49_crossroadsref11_raw a0.H with
   | none => none
   | some c6 => 
     (bif decide ((c6 ++ a0.B).length ≤ 140737488355328) then
       (let c11 := F50_crossroadsref11_MayAd a0
        (bif c11 then
          (bif decide ((2 : Int) ≤ ((c6 ++ a0.B).length : Int)) then
            (let c15 := F51_crossroadsref02_Fits ((c6 ++ a0.B).drop 2)
             some c15)
          else none)
        else
          some false))
     else none)))

def F80_crossroadsref01_Take_l1 (b0 : List Int) (many1 : Int) (fuel8 : Nat) (n7 : Int) (i8 : Int) : Option Int :=
  bif decide (i8 < many1) then
    match fuel8 with
    | 0 => some n7
    | fuel8 + 1 => (match getI b0 i8 with
        | none => none
        | some x916 => F80_crossroadsref01_Take_l1 b0 many1 fuel8 (IntKind.u32.wrap ((IntKind.u32.wrap (n7 * 256)) + (IntKind.u32.wrap x916))) (IntKind.i64.wrap (i8 + 1)))
  else some n7
/-- crossroads/crossroadsref01.Take -/
def F80_crossroadsref01_Take (b0 : List Int) (many1 : Int) : Option (Int × (List Int) × Int) :=
  (bif decide (many1 < 1) then
    some (0, ([] : List Int), 1)
  else
    (bif decide (4 < many1) then
      some (0, ([] : List Int), 1)
    else
      (bif decide ((b0.length : Int) < many1) then
        some (0, ([] : List Int), 2)
      else
        (match F80_crossroadsref01_Take_l1 b0 many1 (fuelUp 0 many1) 0 0 with
        | none => none
        | some n7 => 
          (bif decide ((0 : Int) ≤ many1) then
            (bif decide (many1 ≤ (b0.length : Int)) then
              (bif decide ((([] : List Int) ++ (b0.drop many1.toNat)).length ≤ 140737488355328) then
                some (n7, (b0.drop many1.toNat), 0)
              else none)
            else none)
          else none)))))

def F70_crossroadsref01_Rows_l1 (many1 : Int) (fuel0 : Nat) (b0x : List Int) (out6 : List Int) : Option (Except ((List Int) × Int) ((List Int) × (List Int))) :=
  match fuel0 with
  | 0 => none
  | fuel0 + 1 => (bif decide (0 < (b0x.length : Int)) then
        ((match F80_crossroadsref01_Take b0x many1 with
         | none => none
         | some (c23a, c23b, c23c) => 
           (bif decide (c23c = 0) then
             (bif decide (out6.length < 1099511627776) then
               F70_crossroadsref01_Rows_l1 many1 fuel0 c23b (out6 ++ ([c23a] : List Int))
             else none)
           else
             some (.error ((([] : List Int), c23c))))))
      else
        some (.ok (b0x, out6)))
/-- crossroads/crossroadsref01.Rows -/
def F70_crossroadsref01_Rows (b0 : List Int) (many1 : Int) : Option ((List Int) × Int) :=
  (bif decide (many1 < 1) then
    some (([] : List Int), 1)
  else
    (bif decide (4 < many1) then
      some (([] : List Int), 1)
    else
      (match F70_crossroadsref01_Rows_l1 many1 (b0.length + 1) b0 ([] : List Int) with
      | none => none
      | some (.error r) => some r
      | some (.ok (b0x, out6)) => some (out6, 0))))

def F71_crossroadsref12_MayRouter_l1  : List TLink → Except Bool Unit
  | [] => .ok ()
  | x3 :: l3 => (bif decide (x3.Kind < 1) then
        .error (false)
      else
        (bif decide (4 < x3.Kind) then
          .error (false)
        else
          (bif decide (x3.Cost < 0) then
            .error (false)
          else
            (bif decide (65535 < x3.Cost) then .error (false) else F71_crossroadsref12_MayRouter_l1 l3))))
/-- crossroads/crossroadsref12.MayRouter -/
def F71_crossroadsref12_MayRouter (x0 : TRouterBody) : Bool :=
  (bif decide (x0.Flags < 0) then
    false
  else
    (bif decide (31 < x0.Flags) then
      false
    else
      (bif decide (100 < (x0.Links.length : Int)) then
        false
      else
        (match F71_crossroadsref12_MayRouter_l1 x0.Links with
        | .error r => r
        | .ok _ => true))))

def F52_crossroadsref12_ReadRouter_l1  (fuel0 : Nat) : Option Unit :=
  match fuel0 with
  | 0 => none
  | fuel0 + 1 => some ()
def F52_crossroadsref12_ReadRouter_l2 (b0 : List Int) (x901 : Int) (x902 : Int) (fuel0 : Nat) (ok6 : Bool) (i7 : Int) (row2 : List TLink) : Option (Bool × Int × (List TLink)) :=
  match fuel0 with
  | 0 => none
  | fuel0 + 1 => (bif ok6 then
        (bif decide (i7 < IntKind.i64.wrap ((IntKind.i64.wrap (256 * (IntKind.i64.wrap x901))) + (IntKind.i64.wrap x902))) then
          (bif decide ((0 : Int) ≤ IntKind.i64.wrap (4 + (IntKind.i64.wrap (12 * i7)))) then
            (bif decide (IntKind.i64.wrap (4 + (IntKind.i64.wrap (12 * i7))) ≤ IntKind.i64.wrap (16 + (IntKind.i64.wrap (12 * i7)))) then
              (bif decide (IntKind.i64.wrap (16 + (IntKind.i64.wrap (12 * i7))) ≤ (b0.length : Int)) then
                ((match F70_crossroadsref01_Rows ((b0.drop (IntKind.i64.wrap (4 + (IntKind.i64.wrap (12 * i7)))).toNat).take ((IntKind.i64.wrap (16 + (IntKind.i64.wrap (12 * i7)))).toNat - (IntKind.i64.wrap (4 + (IntKind.i64.wrap (12 * i7)))).toNat)) 4 with
                 | none => none
                 | some (c70a, c70b) => 
                   (match getI c70a 0 with
                   | none => none
                   | some x938 => 
                     (match getI c70a 1 with
                     | none => none
                     | some x939 => 
                       (match getI c70a 2 with
                       | none => none
                       | some x940 => 
                         (bif decide (row2.length < 1099511627776) then
                           F52_crossroadsref12_ReadRouter_l2 b0 x901 x902 fuel0 (decide ((Int.tmod (IntKind.u32.wrap (Int.tdiv x940 65536)) 256) = 0)) (IntKind.i64.wrap (i7 + 1)) (row2 ++ ([(⟨IntKind.i64.wrap (IntKind.u32.wrap (Int.tdiv x940 16777216)), x938, x939, IntKind.i64.wrap (Int.tmod x940 65536)⟩ : TLink)] : List TLink))
                         else none))))))
              else none)
            else none)
          else none)
        else
          some (true, i7, row2))
      else
        some (false, i7, row2))
/-- crossroads/crossroadsref12.ReadRouter -/
def F52_crossroadsref12_ReadRouter (b0 : List Int) : Option (TRouterBody × Int) :=
  (bif decide ((b0.length : Int) < 4) then
    some ((⟨0, ([] : List TLink)⟩ : TRouterBody), 2)
  else
    (match getI b0 2 with
    | none => none
    | some x901 => 
      (match getI b0 3 with
      | none => none
      | some x902 => 
        (bif decide ((b0.length : Int) < IntKind.i64.wrap (4 + (IntKind.i64.wrap (12 * (IntKind.i64.wrap ((IntKind.i64.wrap (256 * (IntKind.i64.wrap x901))) + (IntKind.i64.wrap x902))))))) then
          some ((⟨0, ([] : List TLink)⟩ : TRouterBody), 2)
        else
          (match getI b0 0 with
          | none => none
          | some x904 => 
            (match getI b0 1 with
            | none => none
            | some x905 => 
              (bif decide (x905 = 0) then
                (bif decide ((b0.length : Int) = IntKind.i64.wrap (4 + (IntKind.i64.wrap (12 * (IntKind.i64.wrap ((IntKind.i64.wrap (256 * (IntKind.i64.wrap x901))) + (IntKind.i64.wrap x902))))))) then
                  (match F52_crossroadsref12_ReadRouter_l2 b0 x901 x902 200 (decide (IntKind.i64.wrap ((IntKind.i64.wrap (256 * (IntKind.i64.wrap x901))) + (IntKind.i64.wrap x902)) ≤ 100)) 0 ([] : List TLink) with
                  | none => none
                  | some (ok6, i7, row2) => 
                    (bif ok6 then
                      (let c109 := F71_crossroadsref12_MayRouter (⟨IntKind.i64.wrap x904, row2⟩ : TRouterBody)
                       (bif c109 then
                         some ((⟨IntKind.i64.wrap x904, row2⟩ : TRouterBody), 0)
                       else
                         some ((⟨0, ([] : List TLink)⟩ : TRouterBody), 3)))
                    else
                      some ((⟨0, ([] : List TLink)⟩ : TRouterBody), 3)))
                else
                  (match F52_crossroadsref12_ReadRouter_l1 200 with
                  | none => none
                  | some _ => some ((⟨0, ([] : List TLink)⟩ : TRouterBody), 3)))
              else
                (match F52_crossroadsref12_ReadRouter_l1 200 with
                | none => none
                | some _ => some ((⟨0, ([] : List TLink)⟩ : TRouterBody), 3)))))))))

def F84_crossroadsref03_Mask_l1 (n0 : Int) (fuel0 : Nat) (m3 : Int) (i4 : Int) : Int × Int :=
  match fuel0 with
  | 0 => (m3, i4)
  | fuel0 + 1 => (bif decide (i4 < 32) then
        (bif decide (i4 < n0) then
          F84_crossroadsref03_Mask_l1 n0 fuel0 (IntKind.u32.wrap ((IntKind.u32.wrap (m3 * 2)) + 1)) (IntKind.i64.wrap (i4 + 1))
        else
          F84_crossroadsref03_Mask_l1 n0 fuel0 (IntKind.u32.wrap (m3 * 2)) (IntKind.i64.wrap (i4 + 1)))
      else
        (m3, i4))
/-- crossroads/crossroadsref03.Mask -/
def F84_crossroadsref03_Mask (n0 : Int) : Int :=
  (match F84_crossroadsref03_Mask_l1 n0 ((32 - (0 : Int)).toNat + 1) 0 0 with
  | (m3, i4) => m3)

def F81_crossroadsref03_Long_l1 (mask0 : Int) (fuel0 : Nat) (n4 : Int) : Except (Int × Int) Int :=
  match fuel0 with
  | 0 => .ok n4
  | fuel0 + 1 => (bif decide (n4 ≤ 32) then
        (let c10 := F84_crossroadsref03_Mask n4
         (bif decide (c10 = mask0) then .error ((n4, 0)) else F81_crossroadsref03_Long_l1 mask0 fuel0 (IntKind.i64.wrap (n4 + 1))))
      else
        .ok n4)
/-- crossroads/crossroadsref03.Long -/
def F81_crossroadsref03_Long (mask0 : Int) : Int × Int :=
  (match F81_crossroadsref03_Long_l1 mask0 ((33 - (0 : Int)).toNat + 1) 0 with
  | .error r => r
  | .ok n4 => (0, 3))

/-- crossroads/crossroadsref12.isMask -/
def F72_crossroadsref12_isMask (m0 : Int) : Bool :=
  (match F81_crossroadsref03_Long m0 with
   | (c7a, c7b) => decide (c7b = 0))

/-- crossroads/crossroadsref12.ReadNetwork -/
def F53_crossroadsref12_ReadNetwork (b0 : List Int) : Option (TNetworkBody × Int) :=
  ((match F70_crossroadsref01_Rows b0 4 with
   | none => none
   | some (c8a, c8b) => 
     (bif decide (c8b = 0) then
       (bif decide ((c8a.length : Int) < 2) then
         some ((⟨0, ([] : List Int)⟩ : TNetworkBody), 2)
       else
         (match getI c8a 0 with
         | none => none
         | some x902 => 
           (let c22 := F72_crossroadsref12_isMask x902
            (bif c22 then
              (bif decide (201 < (c8a.length : Int)) then
                some ((⟨0, ([] : List Int)⟩ : TNetworkBody), 3)
              else
                (bif decide ((1 : Int) ≤ (c8a.length : Int)) then
                  some ((⟨x902, (c8a.drop 1)⟩ : TNetworkBody), 0)
                else none))
            else
              some ((⟨0, ([] : List Int)⟩ : TNetworkBody), 3)))))
     else
       some ((⟨0, ([] : List Int)⟩ : TNetworkBody), 2))))

/-- crossroads/crossroadsref12.ReadSummary -/
def F54_crossroadsref12_ReadSummary (b0 : List Int) : Option (TSummaryBody × Int) :=
  (bif decide ((b0.length : Int) < 8) then
    some ((⟨0, 0⟩ : TSummaryBody), 2)
  else
    (bif decide (8 < (b0.length : Int)) then
      some ((⟨0, 0⟩ : TSummaryBody), 3)
    else
      (match getI b0 4 with
      | none => none
      | some x902 => 
        (bif decide (x902 = 0) then
          ((match F70_crossroadsref01_Rows b0 4 with
           | none => none
           | some (c22a, c22b) => 
             (match getI c22a 0 with
             | none => none
             | some x904 => 
               (let c28 := F72_crossroadsref12_isMask x904
                (bif c28 then
                  (match getI c22a 1 with
                  | none => none
                  | some x906 => some ((⟨x904, IntKind.i64.wrap x906⟩ : TSummaryBody), 0))
                else
                  some ((⟨0, 0⟩ : TSummaryBody), 3))))))
        else
          some ((⟨0, 0⟩ : TSummaryBody), 3)))))

/-- crossroads/crossroadsref12.ReadExternal -/
def F55_crossroadsref12_ReadExternal (b0 : List Int) : Option (TExternalBody × Int) :=
  (bif decide ((b0.length : Int) < 16) then
    some ((⟨0, false, 0, 0, 0⟩ : TExternalBody), 2)
  else
    (bif decide (16 < (b0.length : Int)) then
      some ((⟨0, false, 0, 0, 0⟩ : TExternalBody), 3)
    else
      (match getI b0 4 with
      | none => none
      | some x902 => 
        (bif decide (x902 = 0) then
          ((match F70_crossroadsref01_Rows b0 4 with
           | none => none
           | some (c28a, c28b) => 
             (match getI c28a 0 with
             | none => none
             | some x910 => 
               (let c34 := F72_crossroadsref12_isMask x910
                (bif c34 then
                  (match getI c28a 1 with
                  | none => none
                  | some x912 => 
                    (match getI c28a 2 with
                    | none => none
                    | some x913 => 
                      (match getI c28a 3 with
                      | none => none
                      | some x914 => some ((⟨x910, decide (x902 = 128), IntKind.i64.wrap (Int.tmod x912 16777216), x913, x914⟩ : TExternalBody), 0))))
                else
                  some ((⟨0, false, 0, 0, 0⟩ : TExternalBody), 3))))))
        else
          (bif decide (x902 = 128) then
            ((match F70_crossroadsref01_Rows b0 4 with
             | none => none
             | some (c28a, c28b) => 
               (match getI c28a 0 with
               | none => none
               | some x905 => 
                 (let c34 := F72_crossroadsref12_isMask x905
                  (bif c34 then
                    (match getI c28a 1 with
                    | none => none
                    | some x907 => 
                      (match getI c28a 2 with
                      | none => none
                      | some x908 => 
                        (match getI c28a 3 with
                        | none => none
                        | some x909 => some ((⟨x905, decide (x902 = 128), IntKind.i64.wrap (Int.tmod x907 16777216), x908, x909⟩ : TExternalBody), 0))))
                  else
                    some ((⟨0, false, 0, 0, 0⟩ : TExternalBody), 3))))))
          else
            some ((⟨0, false, 0, 0, 0⟩ : TExternalBody), 3))))))

/-- crossroads/crossroadsref12.Right -/
def F36_crossroadsref12_Right (a0 : TAd) : Option Bool :=
  (bif decide (a0.H.Typef = 1) then
    ((match F52_crossroadsref12_ReadRouter a0.B with
     | none => none
     | some (c12a, c12b) => some (decide (c12b = 0))))
  else
    (bif decide (a0.H.Typef = 2) then
      ((match F53_crossroadsref12_ReadNetwork a0.B with
       | none => none
       | some (c20a, c20b) => some (decide (c20b = 0))))
    else
      (bif decide (a0.H.Typef = 3) then
        ((match F54_crossroadsref12_ReadSummary a0.B with
         | none => none
         | some (c29a, c29b) => some (decide (c29b = 0))))
      else
        (bif decide (a0.H.Typef = 4) then
          ((match F54_crossroadsref12_ReadSummary a0.B with
           | none => none
           | some (c29a, c29b) => some (decide (c29b = 0))))
        else
          (bif decide (a0.H.Typef = 5) then
            ((match F55_crossroadsref12_ReadExternal a0.B with
             | none => none
             | some (c38a, c38b) => some (decide (c38b = 0))))
          else
            (bif decide (a0.H.Typef = 7) then
              ((match F55_crossroadsref12_ReadExternal a0.B with
               | none => none
               | some (c38a, c38b) => some (decide (c38b = 0))))
            else
              some false))))))

/-- crossroads/crossroadsref11.Less -/
def F37_crossroadsref11_Less (a0 : TKey) (b1 : TKey) : Bool :=
  (bif decide (a0.Typef = b1.Typef) then
    ((decide (a0.ID < b1.ID)) || ((decide (a0.ID = b1.ID)) && (decide (a0.Adv < b1.Adv))))
  else
    decide (a0.Typef < b1.Typef))

/-- crossroads/crossroadsref11.Key -/
def F38_crossroadsref11_Key (h0 : THeader) : TKey :=
  (⟨h0.Typef, h0.ID, h0.Adv⟩ : TKey)

def F22_crossroadsref14_May_l1 (s0 : TStore) : (i3 : Nat) → List TAd → Option (Except Bool Unit)
  | i3, [] => some (.ok ())
  | i3, x3 :: l3 => ((match F35_crossroadsref11_Whole x3 with
       | none => none
       | some c32 => 
         (bif c32 then
           ((match F36_crossroadsref12_Right x3 with
            | none => none
            | some c40 => 
              (bif c40 then
                (bif decide (0 < (i3 : Int)) then
                  (match getI s0.L ((i3 - 1 : Nat) : Int) with
                  | none => none
                  | some x909 => 
                    (let c53 := F38_crossroadsref11_Key x909.H
                     (let c60 := F38_crossroadsref11_Key x3.H
                      (let c61 := F37_crossroadsref11_Less c53 c60
                       (bif c61 then F22_crossroadsref14_May_l1 s0 (i3 + 1) l3 else some (.error (false)))))))
                else
                  F22_crossroadsref14_May_l1 s0 (i3 + 1) l3)
              else
                some (.error (false)))))
         else
           some (.error (false)))))
theorem F22_crossroadsref14_May_l1_e : True := by
  have := @F22_crossroadsref14_May_l1.eq_1
  trivial
/-- crossroads/crossroadsref14.May -/
def F22_crossroadsref14_May (s0 : TStore) : Option Bool :=
  (bif decide (s0.Max < 1) then
    some false
  else
    (bif decide (2000 < s0.Max) then
      some false
    else
      (bif decide (s0.Max < (s0.L.length : Int)) then
        some false
      else
        (match F22_crossroadsref14_May_l1 s0 0 s0.L with
        | none => none
        | some (.error r) => some r
        | some (.ok _) => some true))))

def F23_crossroadsref13_Keys_l1 (b1 : List TKey) : (i5 : Nat) → List TKey → Except Bool Unit
  | i5, [] => .ok ()
  | i5, x5 :: l5 => (bif decide (x5.Typef = (b1.getD i5 default).Typef) && (decide (x5.ID = (b1.getD i5 default).ID) && (decide (x5.Adv = (b1.getD i5 default).Adv) && true)) then F23_crossroadsref13_Keys_l1 b1 (i5 + 1) l5 else .error (false))
/-- crossroads/crossroadsref13.Keys -/
def F23_crossroadsref13_Keys (a0 : List TKey) (b1 : List TKey) : Bool :=
  ((decide ((a0.length : Int) = (b1.length : Int))) && (match F23_crossroadsref13_Keys_l1 b1 0 a0 with
  | .error r => r
  | .ok _ => true))

def F73_slices_BinarySearchFunc_l1 (x0 : List TAd) (target1 : TKey) (hcmp2 : TAd → TKey → Int) (fuel0 : Nat) (i9 : Int) (j10 : Int) : Option (Int × Int) :=
  match fuel0 with
  | 0 => none
  | fuel0 + 1 => (bif decide (i9 < j10) then
        (match getI x0 (IntKind.i64.wrap (Int.fdiv (IntKind.u64.wrap (IntKind.i64.wrap (i9 + j10))) (2 ^ 1))) with
        | none => none
        | some x917 => 
          (let c30 := hcmp2 x917 target1
           (bif decide (c30 < 0) then
             F73_slices_BinarySearchFunc_l1 x0 target1 hcmp2 fuel0 (IntKind.i64.wrap ((IntKind.i64.wrap (Int.fdiv (IntKind.u64.wrap (IntKind.i64.wrap (i9 + j10))) (2 ^ 1))) + 1)) j10
           else
             F73_slices_BinarySearchFunc_l1 x0 target1 hcmp2 fuel0 i9 (IntKind.i64.wrap (Int.fdiv (IntKind.u64.wrap (IntKind.i64.wrap (i9 + j10))) (2 ^ 1))))))
      else
        some (i9, j10))
/-- slices.BinarySearchFunc[[]crossroads/api.Ad,crossroads/api.Ad,crossroads/api.Key] -/
def F73_slices_BinarySearchFunc (x0 : List TAd) (target1 : TKey) (hcmp2 : TAd → TKey → Int) : Option (Int × Bool) :=
  (match F73_slices_BinarySearchFunc_l1 x0 target1 hcmp2 100 0 (x0.length : Int) with
  | none => none
  | some (i9, j10) => 
    (bif decide (i9 < (x0.length : Int)) then
      (match getI x0 i9 with
      | none => none
      | some x915 => 
        (let c46 := hcmp2 x915 target1
         some (i9, decide (c46 = 0))))
    else
      some (i9, false)))

/-- crossroads/lsa.Key -/
def F40_lsa_Key (h0 : THeader) : TKey :=
  (⟨h0.Typef, h0.ID, h0.Adv⟩ : TKey)

def F57_lsa_first_l1  : List Int → Except Int Unit
  | [] => .ok ()
  | x7 :: l7 => (bif decide (x7 = 0) then F57_lsa_first_l1 l7 else .error (x7))
/-- crossroads/lsa.first -/
def F57_lsa_first (l0 : List Int) : Int :=
  (match F57_lsa_first_l1 l0 with
  | .error r => r
  | .ok _ => 0)

/-- cmp.isNaN[int] -/
def F77_cmp_isNaN (x0 : Int) : Bool :=
  !decide (x0 = x0)

/-- cmp.Compare[int] -/
def F59_cmp_Compare (x0 : Int) (y1 : Int) : Int :=
  (let c8 := F77_cmp_isNaN x0
   (let c10 := F77_cmp_isNaN y1
    (bif c8 then
      (bif c10 then 0 else (-1))
    else
      (bif c10 then 1 else (bif decide (x0 < y1) then (-1) else (bif decide (y1 < x0) then 1 else 0))))))

/-- cmp.isNaN[uint32] -/
def F85_cmp_isNaN (x0 : Int) : Bool :=
  !decide (x0 = x0)

/-- cmp.Compare[uint32] -/
def F82_cmp_Compare (x0 : Int) (y1 : Int) : Int :=
  (let c8 := F85_cmp_isNaN x0
   (let c10 := F85_cmp_isNaN y1
    (bif c8 then
      (bif c10 then 0 else (-1))
    else
      (bif c10 then 1 else (bif decide (x0 < y1) then (-1) else (bif decide (y1 < x0) then 1 else 0))))))

/-- crossroads/lsa.Less -/
def F75_lsa_Less (a0 : TKey) (b1 : TKey) : Bool :=
  (let c9 := F59_cmp_Compare a0.Typef b1.Typef
   (let c14 := F82_cmp_Compare a0.ID b1.ID
    (let c19 := F82_cmp_Compare a0.Adv b1.Adv
     (let c21 := F57_lsa_first ([c9, c14, c19] : List Int)
      decide (c21 < 0)))))

/-- (crossroads/store.Store).at$1 -/
def F74_store_Store_at_1 (a0 : TAd) (k1 : TKey) : Int :=
  (let c8 := F40_lsa_Key a0.H
   (let c12 := F75_lsa_Less c8 k1
    (bif c12 then
      (-1)
    else
      (let c16 := F75_lsa_Less k1 c8
       (bif c16 then 1 else 0)))))

/-- (crossroads/store.Store).at -/
def F56_store_Store_at (s0 : TStore) (k1 : TKey) : Option (Int × Bool) :=
  F73_slices_BinarySearchFunc s0.L k1 (fun y0 y1 => F74_store_Store_at_1 y0 y1)

/-- crossroads/store.Find -/
def F39_store_Find (s0 : TStore) (k1 : TKey) : Option (TAd × Bool) :=
  ((match F56_store_Store_at s0 k1 with
   | none => none
   | some (c11a, c11b) => 
     (bif c11b then
       (match getI s0.L c11a with
       | none => none
       | some x901 => some (x901, true))
     else
       some ((⟨(⟨0, 0, 0, 0, 0, 0, 0, 0⟩ : THeader), ([] : List Int)⟩ : TAd), false))))

/-- cmp.isNaN[int32] -/
def F76_cmp_isNaN (x0 : Int) : Bool :=
  !decide (x0 = x0)

/-- cmp.Compare[int32] -/
def F58_cmp_Compare (x0 : Int) (y1 : Int) : Int :=
  (let c8 := F76_cmp_isNaN x0
   (let c10 := F76_cmp_isNaN y1
    (bif c8 then
      (bif c10 then 0 else (-1))
    else
      (bif c10 then 1 else (bif decide (x0 < y1) then (-1) else (bif decide (y1 < x0) then 1 else 0))))))

/-- crossroads/lsa.old -/
def F60_lsa_old (h0 : THeader) : Int :=
  (bif decide (h0.Age = 3600) then 1 else 0)

/-- crossroads/lsa.isIn -/
def F78_lsa_isIn (n0 : Int) (low1 : Int) (high2 : Int) : Bool :=
  ((decide (low1 ≤ n0)) && (decide (n0 ≤ high2)))

/-- crossroads/lsa.younger -/
def F61_lsa_younger (a0 : THeader) (b1 : THeader) : Int :=
  (let c10 := F78_lsa_isIn (IntKind.i64.wrap (a0.Age - b1.Age)) (-900) 900
   (bif c10 then 0 else F59_cmp_Compare b1.Age a0.Age))

/-- crossroads/lsa.Compare -/
def F41_lsa_Compare (a0 : THeader) (b1 : THeader) : Int :=
  (let c11 := F58_cmp_Compare (IntKind.i32.wrap a0.Seq) (IntKind.i32.wrap b1.Seq)
   (let c16 := F59_cmp_Compare a0.Sum b1.Sum
    (let c18 := F60_lsa_old a0
     (let c20 := F60_lsa_old b1
      (let c24 := F61_lsa_younger a0 b1
       F57_lsa_first ([c11, c16, IntKind.i64.wrap (c18 - c20), c24] : List Int))))))

def F24_exch_Wants_l1 (st0 : TStore) : (out5 : List TKey) → List THeader → Option (List TKey)
  | out5, [] => some out5
  | out5, x12 :: l12 => (let c19 := F40_lsa_Key x12
       ((match F39_store_Find st0 c19 with
        | none => none
        | some (c20a, c20b) => 
          (bif c20b then
            (let c29 := F41_lsa_Compare x12 c20a.H
             (bif decide (0 < c29) then
               ((bif decide (out5.length < 1099511627776) then
                  F24_exch_Wants_l1 st0 (out5 ++ ([c19] : List TKey)) l12
                else none))
             else
               F24_exch_Wants_l1 st0 out5 l12))
          else
            ((bif decide (out5.length < 1099511627776) then
               F24_exch_Wants_l1 st0 (out5 ++ ([c19] : List TKey)) l12
             else none))))))
theorem F24_exch_Wants_l1_e : True := by
  have := @F24_exch_Wants_l1.eq_1
  trivial
/-- crossroads/exch.Wants -/
def F24_exch_Wants (st0 : TStore) (l1 : List THeader) : Option (List TKey) :=
  (match F24_exch_Wants_l1 st0 ([] : List TKey) l1 with
  | none => none
  | some out5 => some out5)

def F42_crossroadsref14_Find_l1 (k1 : TKey) : List TAd → Except (TAd × Bool) Unit
  | [] => .ok ()
  | x6 :: l6 => (let c20 := F38_crossroadsref11_Key x6.H
       (bif (decide (c20.Typef = k1.Typef) && (decide (c20.ID = k1.ID) && (decide (c20.Adv = k1.Adv) && true))) then .error ((x6, true)) else F42_crossroadsref14_Find_l1 k1 l6))
/-- crossroads/crossroadsref14.Find -/
def F42_crossroadsref14_Find (s0 : TStore) (k1 : TKey) : TAd × Bool :=
  (match F42_crossroadsref14_Find_l1 k1 s0.L with
  | .error r => r
  | .ok _ => ((⟨(⟨0, 0, 0, 0, 0, 0, 0, 0⟩ : THeader), ([] : List Int)⟩ : TAd), false))

/-- crossroads/crossroadsref11.more -/
def F62_crossroadsref11_more (is0 : Bool) : Int :=
  (bif is0 then 1 else (-1))

/-- crossroads/crossroadsref11.Compare -/
def F43_crossroadsref11_Compare (a0 : THeader) (b1 : THeader) : Int :=
  (bif decide (IntKind.i32.wrap a0.Seq = IntKind.i32.wrap b1.Seq) then
    (bif decide (a0.Sum = b1.Sum) then
      (bif (decide (a0.Age = 3600)) == (decide (b1.Age = 3600)) then
        (bif decide (IntKind.i64.wrap (b1.Age + 900) < a0.Age) then
          F62_crossroadsref11_more (decide (a0.Age < b1.Age))
        else
          (bif decide (IntKind.i64.wrap (a0.Age + 900) < b1.Age) then F62_crossroadsref11_more (decide (a0.Age < b1.Age)) else 0))
      else
        F62_crossroadsref11_more (decide (a0.Age = 3600)))
    else
      F62_crossroadsref11_more (decide (b1.Sum < a0.Sum)))
  else
    F62_crossroadsref11_more (decide (IntKind.i32.wrap b1.Seq < IntKind.i32.wrap a0.Seq)))

def F25_crossroadsref17_Wants_l1 (st0 : TStore) : (out5 : List TKey) → List THeader → Option (List TKey)
  | out5, [] => some out5
  | out5, x6 :: l6 => (let c22 := F38_crossroadsref11_Key x6
       (match F42_crossroadsref14_Find st0 c22 with
        | (c23a, c23b) => (bif c23b then
            (let c35 := F43_crossroadsref11_Compare x6 c23a.H
             (bif decide (0 < c35) then
               ((bif decide (out5.length < 1099511627776) then
                  F25_crossroadsref17_Wants_l1 st0 (out5 ++ ([c22] : List TKey)) l6
                else none))
             else
               F25_crossroadsref17_Wants_l1 st0 out5 l6))
          else
            ((bif decide (out5.length < 1099511627776) then
               F25_crossroadsref17_Wants_l1 st0 (out5 ++ ([c22] : List TKey)) l6
             else none)))))
theorem F25_crossroadsref17_Wants_l1_e : True := by
  have := @F25_crossroadsref17_Wants_l1.eq_1
  trivial
/-- crossroads/crossroadsref17.Wants -/
def F25_crossroadsref17_Wants (st0 : TStore) (l1 : List THeader) : Option (List TKey) :=
  (match F25_crossroadsref17_Wants_l1 st0 ([] : List TKey) l1 with
  | none => none
  | some out5 => some out5)

def F26_store_Heads_l1  : (out3 : List THeader) → List TAd → Option (List THeader)
  | out3, [] => some out3
  | out3, x9 :: l9 => (bif decide (out3.length < 1099511627776) then
        F26_store_Heads_l1 (out3 ++ ([x9.H] : List THeader)) l9
      else none)
theorem F26_store_Heads_l1_e : True := by
  have := @F26_store_Heads_l1.eq_1
  trivial
/-- crossroads/store.Heads -/
def F26_store_Heads (s0 : TStore) : Option (List THeader) :=
  (match F26_store_Heads_l1 ([] : List THeader) s0.L with
  | none => none
  | some out3 => some out3)

def F7_crossroadslaw17_ExchWants_l1  : List THeader → Option (Except Bool Unit)
  | [] => some (.ok ())
  | x6 :: l6 => (bif decide (x6.Age < 0) then
        ((match F8_crossroadslaw17_alive with
         | none => none
         | some c49 => some (.error (c49))))
      else
        (bif decide (3600 < x6.Age) then
          ((match F8_crossroadslaw17_alive with
           | none => none
           | some c49 => some (.error (c49))))
        else
          F7_crossroadslaw17_ExchWants_l1 l6))
theorem F7_crossroadslaw17_ExchWants_l1_e : True := by
  have := @F7_crossroadslaw17_ExchWants_l1.eq_1
  trivial
/-- crossroads/crossroadslaw17.ExchWants -/
def F7_crossroadslaw17_ExchWants (s0 : TStore) (l1 : List THeader) : Option Bool :=
  (bif decide (100 < (s0.L.length : Int)) then
    F8_crossroadslaw17_alive
  else
    (bif decide (120 < (l1.length : Int)) then
      F8_crossroadslaw17_alive
    else
      ((match F22_crossroadsref14_May s0 with
       | none => none
       | some c25 => 
         (bif c25 then
           (match F7_crossroadslaw17_ExchWants_l1 l1 with
           | none => none
           | some (.error r) => some r
           | some (.ok _) => 
             ((match F8_crossroadslaw17_alive with
              | none => none
              | some c50 => 
                (bif c50 then
                  ((match F24_exch_Wants s0 l1 with
                   | none => none
                   | some c54 => 
                     ((match F25_crossroadsref17_Wants s0 l1 with
                      | none => none
                      | some c57 => 
                        (let c58 := F23_crossroadsref13_Keys c54 c57
                         (bif c58 then
                           ((match F26_store_Heads s0 with
                            | none => none
                            | some c63 => 
                              ((match F24_exch_Wants s0 c63 with
                               | none => none
                               | some c64 => some (decide ((c64.length : Int) = 0))))))
                         else
                           some false))))))
                else
                  some false))))
         else
           F8_crossroadslaw17_alive)))))

end Go.Proofs.Ytbmdpedhobkeeaa.Abs

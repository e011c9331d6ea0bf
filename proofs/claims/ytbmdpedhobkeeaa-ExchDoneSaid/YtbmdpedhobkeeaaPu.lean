/- The functions of the program as Lean functions (printed by this work's own program gen.py). -/
import Derived.Test.YtbmdpedhobkeeaaP0
set_option linter.unusedVariables false
set_option maxRecDepth 100000
namespace Go.Proofs.Ytbmdpedhobkeeaa.Abs
open Go

structure THeader where
  Age : Int
  Options : Int
  Typef : Int
  ID : Int
  Adv : Int
  Seq : Int
  Sum : Int
  Long : Int
  deriving DecidableEq, Inhabited
structure TStart where
  Own : Int
  Peer : Int
  Seq : Int
  Heads : List THeader
  deriving DecidableEq, Inhabited
structure TDesc where
  MTU : Int
  Options : Int
  Init : Bool
  More : Bool
  Master : Bool
  Seq : Int
  Heads : List THeader
  deriving DecidableEq, Inhabited
structure TSession where
  Own : Int
  Peer : Int
  Phase : Int
  Leads : Bool
  Seq : Int
  Left : List THeader
  Got : List THeader
  Last : TDesc
  deriving DecidableEq, Inhabited
structure TTalk where
  Session : TSession
  out : TDesc
  sent : Bool
  e : Int
  deriving DecidableEq, Inhabited
structure TEnd where
  s : TSession
  waits : List TDesc
  deriving DecidableEq, Inhabited

/-- crossroads/exch.Open -/
def F9_exch_Open (own0 : Int) (peer1 : Int) (seq2 : Int) (heads3 : List THeader) : Option (TSession × TDesc) :=
  (bif decide (heads3.length < 1099511627776) then
    some ((⟨own0, peer1, 0, false, seq2, heads3, ([] : List THeader), (⟨1500, 2, true, true, true, seq2, ([] : List THeader)⟩ : TDesc)⟩ : TSession), (⟨1500, 2, true, true, true, seq2, ([] : List THeader)⟩ : TDesc))
  else none)

/-- (*crossroads/exch.talk).send -/
def F65_exch_talk_send (t0 : TTalk) (d1 : TDesc) : TTalk :=
  (⟨(⟨t0.Session.Own, t0.Session.Peer, t0.Session.Phase, t0.Session.Leads, t0.Session.Seq, t0.Session.Left, t0.Session.Got, d1⟩ : TSession), d1, true, t0.e⟩ : TTalk)

/-- (*crossroads/exch.talk).page -/
def F63_exch_talk_page (t0 : TTalk) : Option TTalk :=
  (bif decide ((0 : Int) ≤ min_ 10 (t0.Session.Left.length : Int)) then
    (bif decide (min_ 10 (t0.Session.Left.length : Int) ≤ (t0.Session.Left.length : Int)) then
      (bif decide ((t0.Session.Left.take (min_ 10 (t0.Session.Left.length : Int)).toNat).length < 1099511627776) then
        (bif decide ((t0.Session.Left.drop (min_ 10 (t0.Session.Left.length : Int)).toNat).length < 1099511627776) then
          (let c52 := F65_exch_talk_send (⟨(⟨t0.Session.Own, t0.Session.Peer, t0.Session.Phase, t0.Session.Leads, t0.Session.Seq, (t0.Session.Left.drop (min_ 10 (t0.Session.Left.length : Int)).toNat), t0.Session.Got, t0.Session.Last⟩ : TSession), t0.out, t0.sent, t0.e⟩ : TTalk) (⟨1500, 2, false, decide (min_ 10 (t0.Session.Left.length : Int) < (t0.Session.Left.length : Int)), t0.Session.Leads, t0.Session.Seq, (t0.Session.Left.take (min_ 10 (t0.Session.Left.length : Int)).toNat)⟩ : TDesc)
           some c52)
        else none)
      else none)
    else none)
  else none)

/-- (*crossroads/exch.talk).take -/
def F64_exch_talk_take (t0 : TTalk) (d1 : TDesc) : Option TTalk :=
  (bif decide (t0.Session.Got.length < 1099511627776) then
    (bif decide (d1.Heads.length < 1099511627776) then
      some (⟨(⟨t0.Session.Own, t0.Session.Peer, t0.Session.Phase, t0.Session.Leads, t0.Session.Seq, t0.Session.Left, (t0.Session.Got ++ d1.Heads), t0.Session.Last⟩ : TSession), t0.out, t0.sent, t0.e⟩ : TTalk)
    else none)
  else none)

/-- (*crossroads/exch.talk).lead -/
def F46_exch_talk_lead (t0 : TTalk) (d1 : TDesc) : Option TTalk :=
  (bif decide (d1.Seq = IntKind.u32.wrap (t0.Session.Seq - 1)) then
    some t0
  else
    (bif decide (d1.Seq = t0.Session.Seq) then
      (bif decide (t0.Session.Phase = 2) then
        some t0
      else
        ((match F64_exch_talk_take t0 d1 with
         | none => none
         | some c46 => 
           (bif c46.Session.Last.More then
             F63_exch_talk_page (⟨(⟨c46.Session.Own, c46.Session.Peer, c46.Session.Phase, c46.Session.Leads, IntKind.u32.wrap (c46.Session.Seq + 1), c46.Session.Left, c46.Session.Got, c46.Session.Last⟩ : TSession), c46.out, c46.sent, c46.e⟩ : TTalk)
           else
             (bif d1.More then
               F63_exch_talk_page (⟨(⟨c46.Session.Own, c46.Session.Peer, c46.Session.Phase, c46.Session.Leads, IntKind.u32.wrap (c46.Session.Seq + 1), c46.Session.Left, c46.Session.Got, c46.Session.Last⟩ : TSession), c46.out, c46.sent, c46.e⟩ : TTalk)
             else
               some (⟨(⟨c46.Session.Own, c46.Session.Peer, 2, c46.Session.Leads, c46.Session.Seq, c46.Session.Left, c46.Session.Got, c46.Session.Last⟩ : TSession), c46.out, c46.sent, c46.e⟩ : TTalk))))))
    else
      some (⟨t0.Session, t0.out, t0.sent, 13⟩ : TTalk)))

/-- (*crossroads/exch.talk).begin -/
def F44_exch_talk_begin (t0 : TTalk) (d1 : TDesc) : Option TTalk :=
  (bif d1.Init then
    (bif d1.More then
      (bif d1.Master then
        (bif decide ((d1.Heads.length : Int) = 0) then
          (bif decide (t0.Session.Own < t0.Session.Peer) then
            F63_exch_talk_page (⟨(⟨t0.Session.Own, t0.Session.Peer, 1, t0.Session.Leads, d1.Seq, t0.Session.Left, t0.Session.Got, t0.Session.Last⟩ : TSession), t0.out, t0.sent, t0.e⟩ : TTalk)
          else
            some t0)
        else
          some t0)
      else
        some t0)
    else
      some t0)
  else
    (bif d1.Master then
      some t0
    else
      (bif decide (d1.Seq = t0.Session.Seq) then
        (bif decide (t0.Session.Peer < t0.Session.Own) then
          F46_exch_talk_lead (⟨(⟨t0.Session.Own, t0.Session.Peer, 1, true, t0.Session.Seq, t0.Session.Left, t0.Session.Got, t0.Session.Last⟩ : TSession), t0.out, t0.sent, t0.e⟩ : TTalk) d1
        else
          some t0)
      else
        some t0)))

/-- (*crossroads/exch.talk).hears$1 -/
def F45_exch_talk_hears_1 (a0 : TDesc) (a1 : TTalk) : TTalk :=
  (⟨a1.Session, a1.out, a1.sent, 13⟩ : TTalk)

/-- (*crossroads/exch.talk).follow -/
def F47_exch_talk_follow (t0 : TTalk) (d1 : TDesc) : Option TTalk :=
  (bif decide (d1.Seq = t0.Session.Seq) then
    (let c19 := F65_exch_talk_send t0 t0.Session.Last
     some c19)
  else
    (bif decide (d1.Seq = IntKind.u32.wrap (t0.Session.Seq + 1)) then
      (bif decide (t0.Session.Phase = 2) then
        some (⟨t0.Session, t0.out, t0.sent, 13⟩ : TTalk)
      else
        ((match F64_exch_talk_take t0 d1 with
         | none => none
         | some c43 => 
           ((match F63_exch_talk_page (⟨(⟨c43.Session.Own, c43.Session.Peer, c43.Session.Phase, c43.Session.Leads, d1.Seq, c43.Session.Left, c43.Session.Got, c43.Session.Last⟩ : TSession), c43.out, c43.sent, c43.e⟩ : TTalk) with
            | none => none
            | some c51 => 
              (bif d1.More then
                some c51
              else
                (bif c51.out.More then
                  some c51
                else
                  some (⟨(⟨c51.Session.Own, c51.Session.Peer, 2, c51.Session.Leads, c51.Session.Seq, c51.Session.Left, c51.Session.Got, c51.Session.Last⟩ : TSession), c51.out, c51.sent, c51.e⟩ : TTalk))))))))
    else
      some (⟨t0.Session, t0.out, t0.sent, 13⟩ : TTalk)))

/-- (*crossroads/exch.talk).hears -/
def F28_exch_talk_hears (t0 : TTalk) (d1 : TDesc) : Option (Lf4 × TTalk) :=
  (bif decide (t0.Session.Phase = 0) then
    some (.l3, t0)
  else
    (bif d1.Init then
      some (.l2, t0)
    else
      (bif (d1.Master == t0.Session.Leads) then some (.l2, t0) else (bif t0.Session.Leads then some (.l1, t0) else some (.l0, t0)))))
/-- The function values that it returns. -/
def fv28 : Lf4 → PVal
  | .l0 => .fn 47 [.ptr 0 0] []
  | .l1 => .fn 46 [.ptr 0 0] []
  | .l2 => .fn 45 [] [.ptr 1 0]
  | .l3 => .fn 44 [.ptr 0 0] []

/-- crossroads/exch.Hear -/
def F15_exch_Hear (s0 : TSession) (d1 : TDesc) : Option (TSession × TDesc × Bool × Int) :=
  (match F28_exch_talk_hears (⟨s0, (⟨0, 0, false, false, false, 0, ([] : List THeader)⟩ : TDesc), false, 0⟩ : TTalk) d1 with
  | none => none
  | some (c14a, c14b) => 
    match c14a with
    | .l0 => ((match F47_exch_talk_follow c14b d1 with
       | none => none
       | some c16 => 
         (bif decide (c16.e = 0) then
           some (c16.Session, c16.out, c16.sent, 0)
         else
           some (s0, (⟨0, 0, false, false, false, 0, ([] : List THeader)⟩ : TDesc), false, c16.e))))
    | .l1 => ((match F46_exch_talk_lead c14b d1 with
       | none => none
       | some c16 => 
         (bif decide (c16.e = 0) then
           some (c16.Session, c16.out, c16.sent, 0)
         else
           some (s0, (⟨0, 0, false, false, false, 0, ([] : List THeader)⟩ : TDesc), false, c16.e))))
    | .l2 => (let c16 := F45_exch_talk_hears_1 d1 c14b
       (bif decide (c16.e = 0) then
         some (c16.Session, c16.out, c16.sent, 0)
       else
         some (s0, (⟨0, 0, false, false, false, 0, ([] : List THeader)⟩ : TDesc), false, c16.e)))
    | .l3 => ((match F44_exch_talk_begin c14b d1 with
       | none => none
       | some c16 => 
         (bif decide (c16.e = 0) then
           some (c16.Session, c16.out, c16.sent, 0)
         else
           some (s0, (⟨0, 0, false, false, false, 0, ([] : List THeader)⟩ : TDesc), false, c16.e)))))

/-- crossroads/crossroadslaw17.alive -/
def F8_crossroadslaw17_alive : Option Bool :=
  ((match F9_exch_Open 1 2 5 ([] : List THeader) with
   | none => none
   | some (c16a, c16b) => 
     ((match F9_exch_Open 2 1 7 ([] : List THeader) with
      | none => none
      | some (c20a, c20b) => 
        ((match F15_exch_Hear c16a c20b with
         | none => none
         | some (c26a, c26b, c26c, c26d) => 
           ((match F15_exch_Hear c20a c16b with
            | none => none
            | some (c34a, c34b, c34c, c34d) => 
              ((match F15_exch_Hear c20a c26b with
               | none => none
               | some (c42a, c42b, c42c, c42d) => 
                 (bif c26c then
                   (bif c34c then
                     some false
                   else
                     (bif decide (c42d = 0) then
                       (bif decide (c26a.Phase = 1) then
                         (bif decide (c42a.Phase = 1) then (bif c42a.Leads then some (decide (c26b.Seq = 7)) else some false) else some false)
                       else
                         some false)
                     else
                       some false))
                 else
                   some false)))))))))))

def F21_crossroadsref13_Heads_l1 (b1 : List THeader) : (i5 : Nat) → List THeader → Except Bool Unit
  | i5, [] => .ok ()
  | i5, x5 :: l5 => (bif decide (x5.Age = (b1.getD i5 default).Age) && (decide (x5.Options = (b1.getD i5 default).Options) && (decide (x5.Typef = (b1.getD i5 default).Typef) && (decide (x5.ID = (b1.getD i5 default).ID) && (decide (x5.Adv = (b1.getD i5 default).Adv) && (decide (x5.Seq = (b1.getD i5 default).Seq) && (decide (x5.Sum = (b1.getD i5 default).Sum) && (decide (x5.Long = (b1.getD i5 default).Long) && true))))))) then F21_crossroadsref13_Heads_l1 b1 (i5 + 1) l5 else .error (false))
/-- crossroads/crossroadsref13.Heads -/
def F21_crossroadsref13_Heads (a0 : List THeader) (b1 : List THeader) : Bool :=
  ((decide ((a0.length : Int) = (b1.length : Int))) && (match F21_crossroadsref13_Heads_l1 b1 0 a0 with
  | .error r => r
  | .ok _ => true))

/-- crossroads/crossroadsref13.Same -/
def F11_crossroadsref13_Same (a0 : TDesc) (b1 : TDesc) : Bool :=
  ((decide (a0.MTU = b1.MTU)) && ((decide (a0.Options = b1.Options)) && ((a0.Init == b1.Init) && ((a0.More == b1.More) && ((a0.Master == b1.Master) && ((decide (a0.Seq = b1.Seq)) && (F21_crossroadsref13_Heads a0.Heads b1.Heads)))))))

/-- crossroads/crossroadsref17.Same -/
def F13_crossroadsref17_Same (a0 : TSession) (b1 : TSession) : Bool :=
  ((decide (a0.Own = b1.Own)) && ((decide (a0.Peer = b1.Peer)) && ((decide (a0.Phase = b1.Phase)) && ((a0.Leads == b1.Leads) && ((decide (a0.Seq = b1.Seq)) && (let c43 := F21_crossroadsref13_Heads a0.Left b1.Left
   (c43 && (let c50 := F21_crossroadsref13_Heads a0.Got b1.Got
    (c50 && (F11_crossroadsref13_Same a0.Last b1.Last))))))))))

/-- crossroads/crossroadslaw17.desc -/
def F12_crossroadslaw17_desc (d0 : TDesc) : TDesc :=
  d0

/-- crossroads/crossroadslaw17.plain -/
def F14_crossroadslaw17_plain (s0 : TSession) : TSession :=
  (let c19 := F12_crossroadslaw17_desc s0.Last
   (⟨s0.Own, s0.Peer, s0.Phase, s0.Leads, s0.Seq, s0.Left, s0.Got, c19⟩ : TSession))

/-- (*crossroads/exch.end).next -/
def F33_exch_end_next (x0 : TEnd) (again1 : Bool) : Option (TDesc × Bool × TEnd) :=
  (bif decide ((x0.waits.length : Int) = 0) then
    some ((⟨0, 0, false, false, false, 0, ([] : List THeader)⟩ : TDesc), false, x0)
  else
    (match getI x0.waits 0 with
    | none => none
    | some x901 => 
      (bif decide ((1 : Int) ≤ (x0.waits.length : Int)) then
        (bif again1 then
          (bif decide ((x0.waits.drop 1).length < 1099511627776) then
            some (x901, true, (⟨x0.s, ((x0.waits.drop 1) ++ ([x901] : List TDesc))⟩ : TEnd))
          else none)
        else
          some (x901, true, (⟨x0.s, (x0.waits.drop 1)⟩ : TEnd)))
      else none)))

/-- (*crossroads/exch.end).hear -/
def F32_exch_end_hear (x0 : TEnd) (other1 : TEnd) (again2 : Bool) : Option (TEnd × TEnd) :=
  ((match F33_exch_end_next x0 again2 with
   | none => none
   | some (c15a, c15b, c15c) => 
     (bif c15b then
       ((match F15_exch_Hear c15c.s c15a with
        | none => none
        | some (c26a, c26b, c26c, c26d) => 
          (bif c26c then
            (bif decide (other1.waits.length < 1099511627776) then
              some ((⟨c26a, c15c.waits⟩ : TEnd), (⟨other1.s, (other1.waits ++ ([c26b] : List TDesc))⟩ : TEnd))
            else none)
          else
            some ((⟨c26a, c15c.waits⟩ : TEnd), other1))))
     else
       some (c15c, other1))))

/-- crossroads/exch.Again -/
def F17_exch_Again (s0 : TSession) : TDesc × Bool :=
  (bif decide (s0.Phase = 0) then
    (s0.Last, true)
  else
    (bif s0.Leads then
      (bif decide (s0.Phase = 1) then
        (s0.Last, true)
      else
        ((⟨0, 0, false, false, false, 0, ([] : List THeader)⟩ : TDesc), false))
    else
      ((⟨0, 0, false, false, false, 0, ([] : List THeader)⟩ : TDesc), false)))

/-- (*crossroads/exch.end).remind -/
def F34_exch_end_remind (x0 : TEnd) (other1 : TEnd) : Option (TEnd × TEnd) :=
  (match F17_exch_Again x0.s with
   | (c11a, c11b) => (bif c11b then
       (bif decide (other1.waits.length < 1099511627776) then
         some (x0, (⟨other1.s, (other1.waits ++ ([c11a] : List TDesc))⟩ : TEnd))
       else none)
     else
       some (x0, other1)))

def F19_exch_Run_l1  : (x8 : TEnd) → (y9 : TEnd) → List Int → Option (TEnd × TEnd)
  | x8, y9, [] => some (x8, y9)
  | x8, y9, x28 :: l28 => (bif decide (bit_and .i64 x28 1 = 0) then
        (bif decide (x28 = 0) then
          ((match F32_exch_end_hear x8 y9 false with
           | none => none
           | some (c45a, c45b) => F19_exch_Run_l1 c45a c45b l28))
        else
          (bif decide (x28 = 1) then
            ((match F32_exch_end_hear x8 y9 false with
             | none => none
             | some (c45a, c45b) => F19_exch_Run_l1 c45a c45b l28))
          else
            (bif decide (x28 = 2) then
              ((match F33_exch_end_next x8 false with
               | none => none
               | some (c50a, c50b, c50c) => F19_exch_Run_l1 c50c y9 l28))
            else
              (bif decide (x28 = 3) then
                ((match F33_exch_end_next x8 false with
                 | none => none
                 | some (c50a, c50b, c50c) => F19_exch_Run_l1 c50c y9 l28))
              else
                (bif decide (x28 = 4) then
                  ((match F34_exch_end_remind x8 y9 with
                   | none => none
                   | some (c56a, c56b) => F19_exch_Run_l1 c56a c56b l28))
                else
                  (bif decide (x28 = 5) then
                    ((match F34_exch_end_remind x8 y9 with
                     | none => none
                     | some (c56a, c56b) => F19_exch_Run_l1 c56a c56b l28))
                  else
                    (bif decide (x28 = 6) then
                      ((match F32_exch_end_hear x8 y9 true with
                       | none => none
                       | some (c62a, c62b) => F19_exch_Run_l1 c62a c62b l28))
                    else
                      (bif decide (x28 = 7) then
                        ((match F32_exch_end_hear x8 y9 true with
                         | none => none
                         | some (c62a, c62b) => F19_exch_Run_l1 c62a c62b l28))
                      else
                        F19_exch_Run_l1 x8 y9 l28))))))))
      else
        (bif decide (x28 = 0) then
          ((match F32_exch_end_hear y9 x8 false with
           | none => none
           | some (c45a, c45b) => F19_exch_Run_l1 c45b c45a l28))
        else
          (bif decide (x28 = 1) then
            ((match F32_exch_end_hear y9 x8 false with
             | none => none
             | some (c45a, c45b) => F19_exch_Run_l1 c45b c45a l28))
          else
            (bif decide (x28 = 2) then
              ((match F33_exch_end_next y9 false with
               | none => none
               | some (c50a, c50b, c50c) => F19_exch_Run_l1 x8 c50c l28))
            else
              (bif decide (x28 = 3) then
                ((match F33_exch_end_next y9 false with
                 | none => none
                 | some (c50a, c50b, c50c) => F19_exch_Run_l1 x8 c50c l28))
              else
                (bif decide (x28 = 4) then
                  ((match F34_exch_end_remind y9 x8 with
                   | none => none
                   | some (c56a, c56b) => F19_exch_Run_l1 c56b c56a l28))
                else
                  (bif decide (x28 = 5) then
                    ((match F34_exch_end_remind y9 x8 with
                     | none => none
                     | some (c56a, c56b) => F19_exch_Run_l1 c56b c56a l28))
                  else
                    (bif decide (x28 = 6) then
                      ((match F32_exch_end_hear y9 x8 true with
                       | none => none
                       | some (c62a, c62b) => F19_exch_Run_l1 c62b c62a l28))
                    else
                      (bif decide (x28 = 7) then
                        ((match F32_exch_end_hear y9 x8 true with
                         | none => none
                         | some (c62a, c62b) => F19_exch_Run_l1 c62b c62a l28))
                      else
                        F19_exch_Run_l1 x8 y9 l28)))))))))
theorem F19_exch_Run_l1_e : True := by
  have := @F19_exch_Run_l1.eq_1
  trivial
/-- crossroads/exch.Run -/
def F19_exch_Run (a0 : TSession) (b1 : TSession) (fates2 : List Int) : Option (TSession × TSession) :=
  (match F19_exch_Run_l1 (⟨a0, ([b1.Last] : List TDesc)⟩ : TEnd) (⟨b1, ([a0.Last] : List TDesc)⟩ : TEnd) fates2 with
  | none => none
  | some (x8, y9) => some (x8.s, y9.s))

/-- crossroads/crossroadsref17.page -/
def F29_crossroadsref17_page (s0 : TSession) : Option (TSession × TDesc) :=
  (bif decide ((0 : Int) ≤ min_ 10 (s0.Left.length : Int)) then
    (bif decide (min_ 10 (s0.Left.length : Int) ≤ (s0.Left.length : Int)) then
      (bif decide ((s0.Left.take (min_ 10 (s0.Left.length : Int)).toNat).length < 1099511627776) then
        (bif decide ((s0.Left.drop (min_ 10 (s0.Left.length : Int)).toNat).length < 1099511627776) then
          some ((⟨s0.Own, s0.Peer, s0.Phase, s0.Leads, s0.Seq, (s0.Left.drop (min_ 10 (s0.Left.length : Int)).toNat), s0.Got, (⟨1500, 2, false, decide (min_ 10 (s0.Left.length : Int) < (s0.Left.length : Int)), s0.Leads, s0.Seq, (s0.Left.take (min_ 10 (s0.Left.length : Int)).toNat)⟩ : TDesc)⟩ : TSession), (⟨1500, 2, false, decide (min_ 10 (s0.Left.length : Int) < (s0.Left.length : Int)), s0.Leads, s0.Seq, (s0.Left.take (min_ 10 (s0.Left.length : Int)).toNat)⟩ : TDesc))
        else none)
      else none)
    else none)
  else none)

/-- crossroads/crossroadsref17.got -/
def F48_crossroadsref17_got (s0 : TSession) (d1 : TDesc) : Option TSession :=
  (bif decide (s0.Got.length < 1099511627776) then
    (bif decide (d1.Heads.length < 1099511627776) then
      some (⟨s0.Own, s0.Peer, s0.Phase, s0.Leads, s0.Seq, s0.Left, (s0.Got ++ d1.Heads), s0.Last⟩ : TSession)
    else none)
  else none)

/-- crossroads/crossroadsref17.lead -/
def F30_crossroadsref17_lead (s0 : TSession) (d1 : TDesc) : Option (TSession × TDesc × Bool × Int) :=
  (bif decide (d1.Seq = IntKind.u32.wrap (s0.Seq - 1)) then
    some (s0, (⟨0, 0, false, false, false, 0, ([] : List THeader)⟩ : TDesc), false, 0)
  else
    (bif decide (d1.Seq = s0.Seq) then
      (bif decide (s0.Phase = 2) then
        some (s0, (⟨0, 0, false, false, false, 0, ([] : List THeader)⟩ : TDesc), false, 0)
      else
        ((match F48_crossroadsref17_got s0 d1 with
         | none => none
         | some c34 => 
           (bif c34.Last.More then
             ((match F29_crossroadsref17_page (⟨c34.Own, c34.Peer, c34.Phase, c34.Leads, IntKind.u32.wrap (c34.Seq + 1), c34.Left, c34.Got, c34.Last⟩ : TSession) with
              | none => none
              | some (c53a, c53b) => some (c53a, c53b, true, 0)))
           else
             (bif d1.More then
               ((match F29_crossroadsref17_page (⟨c34.Own, c34.Peer, c34.Phase, c34.Leads, IntKind.u32.wrap (c34.Seq + 1), c34.Left, c34.Got, c34.Last⟩ : TSession) with
                | none => none
                | some (c53a, c53b) => some (c53a, c53b, true, 0)))
             else
               some ((⟨c34.Own, c34.Peer, 2, c34.Leads, c34.Seq, c34.Left, c34.Got, c34.Last⟩ : TSession), (⟨0, 0, false, false, false, 0, ([] : List THeader)⟩ : TDesc), false, 0))))))
    else
      some (s0, (⟨0, 0, false, false, false, 0, ([] : List THeader)⟩ : TDesc), false, 13)))

/-- crossroads/crossroadsref17.follow -/
def F31_crossroadsref17_follow (s0 : TSession) (d1 : TDesc) : Option (TSession × TDesc × Bool × Int) :=
  (bif decide (d1.Seq = s0.Seq) then
    some (s0, s0.Last, true, 0)
  else
    (bif decide (d1.Seq = IntKind.u32.wrap (s0.Seq + 1)) then
      (bif decide (s0.Phase = 2) then
        some (s0, (⟨0, 0, false, false, false, 0, ([] : List THeader)⟩ : TDesc), false, 13)
      else
        ((match F48_crossroadsref17_got s0 d1 with
         | none => none
         | some c33 => 
           ((match F29_crossroadsref17_page (⟨c33.Own, c33.Peer, c33.Phase, c33.Leads, d1.Seq, c33.Left, c33.Got, c33.Last⟩ : TSession) with
            | none => none
            | some (c39a, c39b) => 
              (bif d1.More then
                some (c39a, c39b, true, 0)
              else
                (bif c39b.More then
                  some (c39a, c39b, true, 0)
                else
                  some ((⟨c39a.Own, c39a.Peer, 2, c39a.Leads, c39a.Seq, c39a.Left, c39a.Got, c39a.Last⟩ : TSession), c39b, true, 0))))))))
    else
      some (s0, (⟨0, 0, false, false, false, 0, ([] : List THeader)⟩ : TDesc), false, 13)))

/-- crossroads/crossroadsref17.Hear -/
def F16_crossroadsref17_Hear (s0 : TSession) (d1 : TDesc) : Option (TSession × TDesc × Bool × Int) :=
  (bif decide (s0.Phase = 0) then
    (bif d1.Init then
      (bif d1.More then
        (bif d1.Master then
          (bif decide ((d1.Heads.length : Int) = 0) then
            (bif decide (s0.Own < s0.Peer) then
              ((match F29_crossroadsref17_page (⟨s0.Own, s0.Peer, 1, s0.Leads, d1.Seq, s0.Left, s0.Got, s0.Last⟩ : TSession) with
               | none => none
               | some (c44a, c44b) => some (c44a, c44b, true, 0)))
            else
              some (s0, (⟨0, 0, false, false, false, 0, ([] : List THeader)⟩ : TDesc), false, 0))
          else
            some (s0, (⟨0, 0, false, false, false, 0, ([] : List THeader)⟩ : TDesc), false, 0))
        else
          some (s0, (⟨0, 0, false, false, false, 0, ([] : List THeader)⟩ : TDesc), false, 0))
      else
        some (s0, (⟨0, 0, false, false, false, 0, ([] : List THeader)⟩ : TDesc), false, 0))
    else
      (bif d1.Master then
        some (s0, (⟨0, 0, false, false, false, 0, ([] : List THeader)⟩ : TDesc), false, 0)
      else
        (bif decide (d1.Seq = s0.Seq) then
          (bif decide (s0.Peer < s0.Own) then
            F30_crossroadsref17_lead (⟨s0.Own, s0.Peer, 1, true, s0.Seq, s0.Left, s0.Got, s0.Last⟩ : TSession) d1
          else
            some (s0, (⟨0, 0, false, false, false, 0, ([] : List THeader)⟩ : TDesc), false, 0))
        else
          some (s0, (⟨0, 0, false, false, false, 0, ([] : List THeader)⟩ : TDesc), false, 0))))
  else
    (bif d1.Init then
      some (s0, (⟨0, 0, false, false, false, 0, ([] : List THeader)⟩ : TDesc), false, 13)
    else
      (bif (d1.Master == s0.Leads) then
        some (s0, (⟨0, 0, false, false, false, 0, ([] : List THeader)⟩ : TDesc), false, 13)
      else
        (bif s0.Leads then F30_crossroadsref17_lead s0 d1 else F31_crossroadsref17_follow s0 d1))))

/-- crossroads/crossroadsref17.Again -/
def F18_crossroadsref17_Again (s0 : TSession) : TDesc × Bool :=
  (bif decide (s0.Phase = 0) then
    (s0.Last, true)
  else
    (bif s0.Leads then
      (bif decide (s0.Phase = 1) then
        (s0.Last, true)
      else
        ((⟨0, 0, false, false, false, 0, ([] : List THeader)⟩ : TDesc), false))
    else
      ((⟨0, 0, false, false, false, 0, ([] : List THeader)⟩ : TDesc), false)))

def F20_crossroadsref17_Run_l1  : (a3 : TSession) → (b4 : TSession) → (toA8 : List TDesc) → (toB9 : List TDesc) → List Int → Option (TSession × TSession × (List TDesc) × (List TDesc))
  | a3, b4, toA8, toB9, [] => some (a3, b4, toA8, toB9)
  | a3, b4, toA8, toB9, x10 :: l10 => (bif decide (x10 = 4) then
        (match F18_crossroadsref17_Again a3 with
         | (c46a, c46b) => (bif c46b then
             (bif decide (toB9.length < 1099511627776) then
               F20_crossroadsref17_Run_l1 a3 b4 toA8 (toB9 ++ ([c46a] : List TDesc)) l10
             else none)
           else
             F20_crossroadsref17_Run_l1 a3 b4 toA8 toB9 l10))
      else
        (bif decide (x10 = 5) then
          (match F18_crossroadsref17_Again b4 with
           | (c58a, c58b) => (bif c58b then
               (bif decide (toA8.length < 1099511627776) then
                 F20_crossroadsref17_Run_l1 a3 b4 (toA8 ++ ([c58a] : List TDesc)) toB9 l10
               else none)
             else
               F20_crossroadsref17_Run_l1 a3 b4 toA8 toB9 l10))
        else
          (bif decide (x10 = 0) then
            (bif decide (0 < (toA8.length : Int)) then
              (match getI toA8 0 with
              | none => none
              | some x1043 => 
                (bif decide ((1 : Int) ≤ (toA8.length : Int)) then
                  (bif decide ((toA8.drop 1).length < 1099511627776) then
                    ((match F16_crossroadsref17_Hear a3 x1043 with
                     | none => none
                     | some (c99a, c99b, c99c, c99d) => 
                       (bif c99c then
                         (bif decide (toB9.length < 1099511627776) then
                           F20_crossroadsref17_Run_l1 c99a b4 (toA8.drop 1) (toB9 ++ ([c99b] : List TDesc)) l10
                         else none)
                       else
                         F20_crossroadsref17_Run_l1 c99a b4 (toA8.drop 1) toB9 l10)))
                  else none)
                else none))
            else
              F20_crossroadsref17_Run_l1 a3 b4 toA8 toB9 l10)
          else
            (bif decide (x10 = 2) then
              (bif decide (0 < (toA8.length : Int)) then
                (match getI toA8 0 with
                | none => none
                | some x1031 => 
                  (bif decide ((1 : Int) ≤ (toA8.length : Int)) then
                    (bif decide ((toA8.drop 1).length < 1099511627776) then
                      F20_crossroadsref17_Run_l1 a3 b4 (toA8.drop 1) toB9 l10
                    else none)
                  else none))
              else
                F20_crossroadsref17_Run_l1 a3 b4 toA8 toB9 l10)
            else
              (bif decide (x10 = 6) then
                (bif decide (0 < (toA8.length : Int)) then
                  (match getI toA8 0 with
                  | none => none
                  | some x1015 => 
                    (bif decide ((1 : Int) ≤ (toA8.length : Int)) then
                      (bif decide ((toA8.drop 1).length < 1099511627776) then
                        ((match F16_crossroadsref17_Hear a3 x1015 with
                         | none => none
                         | some (c99a, c99b, c99c, c99d) => 
                           (bif c99c then
                             (bif decide (toB9.length < 1099511627776) then
                               F20_crossroadsref17_Run_l1 c99a b4 ((toA8.drop 1) ++ ([x1015] : List TDesc)) (toB9 ++ ([c99b] : List TDesc)) l10
                             else none)
                           else
                             F20_crossroadsref17_Run_l1 c99a b4 ((toA8.drop 1) ++ ([x1015] : List TDesc)) toB9 l10)))
                      else none)
                    else none))
                else
                  F20_crossroadsref17_Run_l1 a3 b4 toA8 toB9 l10)
              else
                (bif decide (x10 = 1) then
                  (bif decide (0 < (toB9.length : Int)) then
                    (match getI toB9 0 with
                    | none => none
                    | some x1003 => 
                      (bif decide ((1 : Int) ≤ (toB9.length : Int)) then
                        (bif decide ((toB9.drop 1).length < 1099511627776) then
                          ((match F16_crossroadsref17_Hear b4 x1003 with
                           | none => none
                           | some (c143a, c143b, c143c, c143d) => 
                             (bif c143c then
                               (bif decide (toA8.length < 1099511627776) then
                                 F20_crossroadsref17_Run_l1 a3 c143a (toA8 ++ ([c143b] : List TDesc)) (toB9.drop 1) l10
                               else none)
                             else
                               F20_crossroadsref17_Run_l1 a3 c143a toA8 (toB9.drop 1) l10)))
                        else none)
                      else none))
                  else
                    F20_crossroadsref17_Run_l1 a3 b4 toA8 toB9 l10)
                else
                  (bif decide (x10 = 3) then
                    (bif decide (0 < (toB9.length : Int)) then
                      (match getI toB9 0 with
                      | none => none
                      | some x997 => 
                        (bif decide ((1 : Int) ≤ (toB9.length : Int)) then
                          (bif decide ((toB9.drop 1).length < 1099511627776) then
                            F20_crossroadsref17_Run_l1 a3 b4 toA8 (toB9.drop 1) l10
                          else none)
                        else none))
                    else
                      F20_crossroadsref17_Run_l1 a3 b4 toA8 toB9 l10)
                  else
                    (bif decide (x10 = 7) then
                      (bif decide (0 < (toB9.length : Int)) then
                        (match getI toB9 0 with
                        | none => none
                        | some x990 => 
                          (bif decide ((1 : Int) ≤ (toB9.length : Int)) then
                            (bif decide ((toB9.drop 1).length < 1099511627776) then
                              ((match F16_crossroadsref17_Hear b4 x990 with
                               | none => none
                               | some (c143a, c143b, c143c, c143d) => 
                                 (bif c143c then
                                   (bif decide (toA8.length < 1099511627776) then
                                     F20_crossroadsref17_Run_l1 a3 c143a (toA8 ++ ([c143b] : List TDesc)) ((toB9.drop 1) ++ ([x990] : List TDesc)) l10
                                   else none)
                                 else
                                   F20_crossroadsref17_Run_l1 a3 c143a toA8 ((toB9.drop 1) ++ ([x990] : List TDesc)) l10)))
                            else none)
                          else none))
                      else
                        F20_crossroadsref17_Run_l1 a3 b4 toA8 toB9 l10)
                    else
                      F20_crossroadsref17_Run_l1 a3 b4 toA8 toB9 l10))))))))
theorem F20_crossroadsref17_Run_l1_e : True := by
  have := @F20_crossroadsref17_Run_l1.eq_1
  trivial
/-- crossroads/crossroadsref17.Run -/
def F20_crossroadsref17_Run (a0 : TSession) (b1 : TSession) (fates2 : List Int) : Option (TSession × TSession) :=
  (match F20_crossroadsref17_Run_l1 a0 b1 ([b1.Last] : List TDesc) ([a0.Last] : List TDesc) fates2 with
  | none => none
  | some (a3, b4, toA8, toB9) => some (a3, b4))

/-- crossroads/crossroadslaw17.ExchRun -/
def F4_crossroadslaw17_ExchRun (a0 : TStart) (b1 : TStart) (fates2 : List Int) : Option Bool :=
  (bif decide (120 < (a0.Heads.length : Int)) then
    F8_crossroadslaw17_alive
  else
    (bif decide (120 < (b1.Heads.length : Int)) then
      F8_crossroadslaw17_alive
    else
      (bif decide (120 < (fates2.length : Int)) then
        F8_crossroadslaw17_alive
      else
        ((match F9_exch_Open a0.Own b1.Own a0.Seq a0.Heads with
         | none => none
         | some (c40a, c40b) => 
           ((match F9_exch_Open b1.Own a0.Own b1.Seq b1.Heads with
            | none => none
            | some (c52a, c52b) => 
              ((match F19_exch_Run c40a c52a fates2 with
               | none => none
               | some (c59a, c59b) => 
                 (let c64 := F14_crossroadslaw17_plain c40a
                  (let c66 := F14_crossroadslaw17_plain c52a
                   ((match F20_crossroadsref17_Run c64 c66 fates2 with
                    | none => none
                    | some (c68a, c68b) => 
                      ((match F8_crossroadslaw17_alive with
                       | none => none
                       | some c71 => 
                         (bif c71 then
                           (let c74 := F14_crossroadslaw17_plain c59a
                            (let c76 := F13_crossroadsref17_Same c74 c68a
                             (bif c76 then
                               (let c80 := F14_crossroadslaw17_plain c59b
                                (let c82 := F13_crossroadsref17_Same c80 c68b
                                 some c82))
                             else
                               some false)))
                         else
                           some false))))))))))))))))

/-- crossroads/crossroadslaw17.ExchAll -/
def F5_crossroadslaw17_ExchAll (a0 : TStart) (b1 : TStart) (fates2 : List Int) : Option Bool :=
  (bif decide (120 < (a0.Heads.length : Int)) then
    F8_crossroadslaw17_alive
  else
    (bif decide (120 < (b1.Heads.length : Int)) then
      F8_crossroadslaw17_alive
    else
      (bif decide (120 < (fates2.length : Int)) then
        F8_crossroadslaw17_alive
      else
        (bif decide (a0.Own = b1.Own) then
          F8_crossroadslaw17_alive
        else
          ((match F9_exch_Open a0.Own b1.Own a0.Seq a0.Heads with
           | none => none
           | some (c45a, c45b) => 
             ((match F9_exch_Open b1.Own a0.Own b1.Seq b1.Heads with
              | none => none
              | some (c57a, c57b) => 
                ((match F19_exch_Run c45a c57a fates2 with
                 | none => none
                 | some (c64a, c64b) => 
                   (bif decide ((b1.Heads.length : Int) < (c64a.Got.length : Int)) then
                     some false
                   else
                     (bif decide ((a0.Heads.length : Int) < (c64b.Got.length : Int)) then
                       some false
                     else
                       (bif decide ((0 : Int) ≤ (c64a.Got.length : Int)) then
                         (bif decide ((c64a.Got.length : Int) ≤ (b1.Heads.length : Int)) then
                           (let c92 := F21_crossroadsref13_Heads c64a.Got (b1.Heads.take (c64a.Got.length : Int).toNat)
                            (bif c92 then
                              (bif decide ((0 : Int) ≤ (c64b.Got.length : Int)) then
                                (bif decide ((c64b.Got.length : Int) ≤ (a0.Heads.length : Int)) then
                                  (let c104 := F21_crossroadsref13_Heads c64b.Got (a0.Heads.take (c64b.Got.length : Int).toNat)
                                   (bif c104 then
                                     (bif decide (c64a.Phase = 2) then
                                       (bif decide (c64b.Phase = 2) then
                                         ((match F8_crossroadslaw17_alive with
                                          | none => none
                                          | some c116 => 
                                            (bif c116 then
                                              (bif decide ((c64a.Got.length : Int) = (b1.Heads.length : Int)) then
                                                (bif decide ((c64b.Got.length : Int) = (a0.Heads.length : Int)) then some (!(c64a.Leads == c64b.Leads)) else some false)
                                              else
                                                some false)
                                            else
                                              some false)))
                                       else
                                         F8_crossroadslaw17_alive)
                                     else
                                       F8_crossroadslaw17_alive)
                                   else
                                     some false))
                                else none)
                              else none)
                            else
                              some false))
                         else none)
                       else none)))))))))))))

def F6_crossroadslaw17_ExchDone_l1 (a0 : TStart) (b1 : TStart) (fuel10 : Nat) (fates9 : List Int) (i10 : Int) : Option (List Int) :=
  bif decide (i10 < IntKind.i64.wrap ((IntKind.i64.wrap (Int.tdiv (max_ (a0.Heads.length : Int) (b1.Heads.length : Int)) 10)) + 5)) then
    match fuel10 with
    | 0 => some fates9
    | fuel10 + 1 => (bif decide (fates9.length < 1099511627776) then
          F6_crossroadslaw17_ExchDone_l1 a0 b1 fuel10 (fates9 ++ ([0, 1, 0, 1] : List Int)) (IntKind.i64.wrap (i10 + 1))
        else none)
  else some fates9
theorem F6_crossroadslaw17_ExchDone_l1_u (a0 : TStart) (b1 : TStart) (fuel10 : Nat) (fates9 : List Int) (i10 : Int) : F6_crossroadslaw17_ExchDone_l1 a0 b1 fuel10 fates9 i10 = (bif decide (i10 < IntKind.i64.wrap ((IntKind.i64.wrap (Int.tdiv (max_ (a0.Heads.length : Int) (b1.Heads.length : Int)) 10)) + 5)) then
    match fuel10 with
    | 0 => some fates9
    | fuel10 + 1 => (bif decide (fates9.length < 1099511627776) then
          F6_crossroadslaw17_ExchDone_l1 a0 b1 fuel10 (fates9 ++ ([0, 1, 0, 1] : List Int)) (IntKind.i64.wrap (i10 + 1))
        else none)
  else some fates9) := by cases fuel10 <;> rfl
/-- crossroads/crossroadslaw17.ExchDone -/
def F6_crossroadslaw17_ExchDone (a0 : TStart) (b1 : TStart) : Option Bool :=
  (bif decide (120 < (a0.Heads.length : Int)) then
    F8_crossroadslaw17_alive
  else
    (bif decide (120 < (b1.Heads.length : Int)) then
      F8_crossroadslaw17_alive
    else
      (bif decide (a0.Own = b1.Own) then
        F8_crossroadslaw17_alive
      else
        ((match F9_exch_Open a0.Own b1.Own a0.Seq a0.Heads with
         | none => none
         | some (c40a, c40b) => 
           ((match F9_exch_Open b1.Own a0.Own b1.Seq b1.Heads with
            | none => none
            | some (c52a, c52b) => 
              (match F6_crossroadslaw17_ExchDone_l1 a0 b1 (fuelUp 0 (IntKind.i64.wrap ((IntKind.i64.wrap (Int.tdiv (max_ (a0.Heads.length : Int) (b1.Heads.length : Int)) 10)) + 5))) ([] : List Int) 0 with
              | none => none
              | some fates9 => 
                ((match F19_exch_Run c40a c52a fates9 with
                 | none => none
                 | some (c76a, c76b) => 
                   ((match F8_crossroadslaw17_alive with
                    | none => none
                    | some c79 => 
                      (bif c79 then
                        (bif decide (c76a.Phase = 2) then some (decide (c76b.Phase = 2)) else some false)
                      else
                        some false)))))))))))))

end Go.Proofs.Ytbmdpedhobkeeaa.Abs

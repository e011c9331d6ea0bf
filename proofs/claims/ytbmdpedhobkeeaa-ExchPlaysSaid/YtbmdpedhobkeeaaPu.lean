/- The functions of the program as Lean functions (printed by this work's own program gen.py). -/
import Derived.Test.YtbmdpedhobkeeaaP0
set_option linter.unusedVariables false
namespace Go.Proofs.Ytbmdpedhobkeeaa.Abs
open Go

structure THeader where
  Age : Int
  Options : Int
  Typef : Int
  ID : Int
  Adv : Int
  Seq : Int
  Sum : Int
  Long : Int
  deriving DecidableEq, Inhabited
structure TStart where
  Own : Int
  Peer : Int
  Seq : Int
  Heads : List THeader
  deriving DecidableEq, Inhabited
structure TDesc where
  MTU : Int
  Options : Int
  Init : Bool
  More : Bool
  Master : Bool
  Seq : Int
  Heads : List THeader
  deriving DecidableEq, Inhabited
structure TSession where
  Own : Int
  Peer : Int
  Phase : Int
  Leads : Bool
  Seq : Int
  Left : List THeader
  Got : List THeader
  Last : TDesc
  deriving DecidableEq, Inhabited
structure TTalk where
  Session : TSession
  out : TDesc
  sent : Bool
  e : Int
  deriving DecidableEq, Inhabited
structure TEnd where
  s : TSession
  waits : List TDesc
  deriving DecidableEq, Inhabited
structure TAd where
  H : THeader
  B : List Int
  deriving DecidableEq, Inhabited
structure TLink where
  Kind : Int
  ID : Int
  Data : Int
  Cost : Int
  deriving DecidableEq, Inhabited
structure TRouterBody where
  Flags : Int
  Links : List TLink
  deriving DecidableEq, Inhabited
structure TNetworkBody where
  Mask : Int
  Routers : List Int
  deriving DecidableEq, Inhabited
structure TSummaryBody where
  Mask : Int
  Cost : Int
  deriving DecidableEq, Inhabited
structure TExternalBody where
  Mask : Int
  Second : Bool
  Cost : Int
  Forward : Int
  Tag : Int
  deriving DecidableEq, Inhabited
structure TKey where
  Typef : Int
  ID : Int
  Adv : Int
  deriving DecidableEq, Inhabited
structure TStore where
  Max : Int
  L : List TAd
  Over : Bool
  deriving DecidableEq, Inhabited

/-- crossroads/exch.Open -/
def F9_exch_Open (own0 : Int) (peer1 : Int) (seq2 : Int) (heads3 : List THeader) : TSession × TDesc :=
  ((⟨own0, peer1, 0, false, seq2, heads3, ([] : List THeader), (⟨1500, 2, true, true, true, seq2, ([] : List THeader)⟩ : TDesc)⟩ : TSession), (⟨1500, 2, true, true, true, seq2, ([] : List THeader)⟩ : TDesc))

/-- (*crossroads/exch.talk).send -/
def F65_exch_talk_send (t0 : TTalk) (d1 : TDesc) : TTalk :=
  (⟨(⟨t0.Session.Own, t0.Session.Peer, t0.Session.Phase, t0.Session.Leads, t0.Session.Seq, t0.Session.Left, t0.Session.Got, d1⟩ : TSession), d1, true, t0.e⟩ : TTalk)

/-- (*crossroads/exch.talk).page -/
def F63_exch_talk_page (t0 : TTalk) : TTalk :=
  F65_exch_talk_send (⟨(⟨t0.Session.Own, t0.Session.Peer, t0.Session.Phase, t0.Session.Leads, t0.Session.Seq, (t0.Session.Left.drop (min_ 10 (t0.Session.Left.length : Int)).toNat), t0.Session.Got, t0.Session.Last⟩ : TSession), t0.out, t0.sent, t0.e⟩ : TTalk) (⟨1500, 2, false, decide (min_ 10 (t0.Session.Left.length : Int) < (t0.Session.Left.length : Int)), t0.Session.Leads, t0.Session.Seq, (t0.Session.Left.take (min_ 10 (t0.Session.Left.length : Int)).toNat)⟩ : TDesc)

/-- (*crossroads/exch.talk).take -/
def F64_exch_talk_take (t0 : TTalk) (d1 : TDesc) : TTalk :=
  (⟨(⟨t0.Session.Own, t0.Session.Peer, t0.Session.Phase, t0.Session.Leads, t0.Session.Seq, t0.Session.Left, (t0.Session.Got ++ d1.Heads), t0.Session.Last⟩ : TSession), t0.out, t0.sent, t0.e⟩ : TTalk)

/-- (*crossroads/exch.talk).lead -/
def F46_exch_talk_lead (t0 : TTalk) (d1 : TDesc) : TTalk :=
  (bif decide (d1.Seq = IntKind.u32.wrap (t0.Session.Seq - 1)) then
    t0
  else
    (bif decide (d1.Seq = t0.Session.Seq) then
      (bif decide (t0.Session.Phase = 2) then
        t0
      else
        (let c46 := F64_exch_talk_take t0 d1
         (bif c46.Session.Last.More then
           F63_exch_talk_page (⟨(⟨c46.Session.Own, c46.Session.Peer, c46.Session.Phase, c46.Session.Leads, IntKind.u32.wrap (c46.Session.Seq + 1), c46.Session.Left, c46.Session.Got, c46.Session.Last⟩ : TSession), c46.out, c46.sent, c46.e⟩ : TTalk)
         else
           (bif d1.More then
             F63_exch_talk_page (⟨(⟨c46.Session.Own, c46.Session.Peer, c46.Session.Phase, c46.Session.Leads, IntKind.u32.wrap (c46.Session.Seq + 1), c46.Session.Left, c46.Session.Got, c46.Session.Last⟩ : TSession), c46.out, c46.sent, c46.e⟩ : TTalk)
           else
             (⟨(⟨c46.Session.Own, c46.Session.Peer, 2, c46.Session.Leads, c46.Session.Seq, c46.Session.Left, c46.Session.Got, c46.Session.Last⟩ : TSession), c46.out, c46.sent, c46.e⟩ : TTalk)))))
    else
      (⟨t0.Session, t0.out, t0.sent, 13⟩ : TTalk)))

/-- (*crossroads/exch.talk).begin -/
def F44_exch_talk_begin (t0 : TTalk) (d1 : TDesc) : TTalk :=
  (bif d1.Init then
    (bif d1.More then
      (bif d1.Master then
        (bif decide ((d1.Heads.length : Int) = 0) then
          (bif decide (t0.Session.Own < t0.Session.Peer) then
            F63_exch_talk_page (⟨(⟨t0.Session.Own, t0.Session.Peer, 1, t0.Session.Leads, d1.Seq, t0.Session.Left, t0.Session.Got, t0.Session.Last⟩ : TSession), t0.out, t0.sent, t0.e⟩ : TTalk)
          else
            t0)
        else
          t0)
      else
        t0)
    else
      t0)
  else
    (bif d1.Master then
      t0
    else
      (bif decide (d1.Seq = t0.Session.Seq) then
        (bif decide (t0.Session.Peer < t0.Session.Own) then
          F46_exch_talk_lead (⟨(⟨t0.Session.Own, t0.Session.Peer, 1, true, t0.Session.Seq, t0.Session.Left, t0.Session.Got, t0.Session.Last⟩ : TSession), t0.out, t0.sent, t0.e⟩ : TTalk) d1
        else
          t0)
      else
        t0)))

/-- (*crossroads/exch.talk).hears$1 -/
def F45_exch_talk_hears_1 (a0 : TDesc) (a1 : TTalk) : TTalk :=
  (⟨a1.Session, a1.out, a1.sent, 13⟩ : TTalk)

/-- (*crossroads/exch.talk).follow -/
def F47_exch_talk_follow (t0 : TTalk) (d1 : TDesc) : TTalk :=
  (bif decide (d1.Seq = t0.Session.Seq) then
    F65_exch_talk_send t0 t0.Session.Last
  else
    (bif decide (d1.Seq = IntKind.u32.wrap (t0.Session.Seq + 1)) then
      (bif decide (t0.Session.Phase = 2) then
        (⟨t0.Session, t0.out, t0.sent, 13⟩ : TTalk)
      else
        (let c43 := F64_exch_talk_take t0 d1
         (let c51 := F63_exch_talk_page (⟨(⟨c43.Session.Own, c43.Session.Peer, c43.Session.Phase, c43.Session.Leads, d1.Seq, c43.Session.Left, c43.Session.Got, c43.Session.Last⟩ : TSession), c43.out, c43.sent, c43.e⟩ : TTalk)
          (bif d1.More then
            c51
          else
            (bif c51.out.More then
              c51
            else
              (⟨(⟨c51.Session.Own, c51.Session.Peer, 2, c51.Session.Leads, c51.Session.Seq, c51.Session.Left, c51.Session.Got, c51.Session.Last⟩ : TSession), c51.out, c51.sent, c51.e⟩ : TTalk))))))
    else
      (⟨t0.Session, t0.out, t0.sent, 13⟩ : TTalk)))

/-- (*crossroads/exch.talk).hears -/
def F28_exch_talk_hears (t0 : TTalk) (d1 : TDesc) : Lf4 × TTalk :=
  (bif decide (t0.Session.Phase = 0) then
    (.l3, t0)
  else
    (bif d1.Init then
      (.l2, t0)
    else
      (bif (d1.Master == t0.Session.Leads) then (.l2, t0) else (bif t0.Session.Leads then (.l1, t0) else (.l0, t0)))))
/-- The function values that it returns. -/
def fv28 : Lf4 → PVal
  | .l0 => .fn 47 [.ptr 0 0] []
  | .l1 => .fn 46 [.ptr 0 0] []
  | .l2 => .fn 45 [] [.ptr 1 0]
  | .l3 => .fn 44 [.ptr 0 0] []

/-- crossroads/exch.Hear -/
def F15_exch_Hear (s0 : TSession) (d1 : TDesc) : TSession × TDesc × Bool × Int :=
  (match F28_exch_talk_hears (⟨s0, (⟨0, 0, false, false, false, 0, ([] : List THeader)⟩ : TDesc), false, 0⟩ : TTalk) d1 with
  | (c14a, c14b) => 
    match c14a with
    | .l0 => (let c16 := F47_exch_talk_follow c14b d1
       (bif decide (c16.e = 0) then
         (c16.Session, c16.out, c16.sent, 0)
       else
         (s0, (⟨0, 0, false, false, false, 0, ([] : List THeader)⟩ : TDesc), false, c16.e)))
    | .l1 => (let c16 := F46_exch_talk_lead c14b d1
       (bif decide (c16.e = 0) then
         (c16.Session, c16.out, c16.sent, 0)
       else
         (s0, (⟨0, 0, false, false, false, 0, ([] : List THeader)⟩ : TDesc), false, c16.e)))
    | .l2 => (let c16 := F45_exch_talk_hears_1 d1 c14b
       (bif decide (c16.e = 0) then
         (c16.Session, c16.out, c16.sent, 0)
       else
         (s0, (⟨0, 0, false, false, false, 0, ([] : List THeader)⟩ : TDesc), false, c16.e)))
    | .l3 => (let c16 := F44_exch_talk_begin c14b d1
       (bif decide (c16.e = 0) then
         (c16.Session, c16.out, c16.sent, 0)
       else
         (s0, (⟨0, 0, false, false, false, 0, ([] : List THeader)⟩ : TDesc), false, c16.e))))

/-- crossroads/crossroadslaw17.alive -/
def F8_crossroadslaw17_alive : Bool :=
  (match F9_exch_Open 1 2 5 ([] : List THeader) with
   | (c16a, c16b) => (match F9_exch_Open 2 1 7 ([] : List THeader) with
      | (c20a, c20b) => (match F15_exch_Hear c16a c20b with
         | (c26a, c26b, c26c, c26d) => (match F15_exch_Hear c20a c16b with
            | (c34a, c34b, c34c, c34d) => (match F15_exch_Hear c20a c26b with
               | (c42a, c42b, c42c, c42d) => (c26c && (bif c34c then
                   false
                 else
                   ((decide (c42d = 0)) && ((decide (c26a.Phase = 1)) && ((decide (c42a.Phase = 1)) && (c42a.Leads && (decide (c26b.Seq = 7)))))))))))))

/-- crossroads/crossroadsref17.Open -/
def F10_crossroadsref17_Open (own0 : Int) (peer1 : Int) (seq2 : Int) (heads3 : List THeader) : TSession × TDesc :=
  ((⟨own0, peer1, 0, false, seq2, heads3, ([] : List THeader), (⟨1500, 2, true, true, true, seq2, ([] : List THeader)⟩ : TDesc)⟩ : TSession), (⟨1500, 2, true, true, true, seq2, ([] : List THeader)⟩ : TDesc))

def F21_crossroadsref13_Heads_l1 (b1 : List THeader) : (i5 : Nat) → List THeader → Except Bool Unit
  | i5, [] => .ok ()
  | i5, x5 :: l5 => (bif decide (x5.Age = (b1.getD i5 default).Age) && (decide (x5.Options = (b1.getD i5 default).Options) && (decide (x5.Typef = (b1.getD i5 default).Typef) && (decide (x5.ID = (b1.getD i5 default).ID) && (decide (x5.Adv = (b1.getD i5 default).Adv) && (decide (x5.Seq = (b1.getD i5 default).Seq) && (decide (x5.Sum = (b1.getD i5 default).Sum) && (decide (x5.Long = (b1.getD i5 default).Long) && true))))))) then F21_crossroadsref13_Heads_l1 b1 (i5 + 1) l5 else .error (false))
/-- crossroads/crossroadsref13.Heads -/
def F21_crossroadsref13_Heads (a0 : List THeader) (b1 : List THeader) : Bool :=
  ((decide ((a0.length : Int) = (b1.length : Int))) && (match F21_crossroadsref13_Heads_l1 b1 0 a0 with
  | .error r => r
  | .ok _ => true))

/-- crossroads/crossroadsref13.Same -/
def F11_crossroadsref13_Same (a0 : TDesc) (b1 : TDesc) : Bool :=
  ((decide (a0.MTU = b1.MTU)) && ((decide (a0.Options = b1.Options)) && ((a0.Init == b1.Init) && ((a0.More == b1.More) && ((a0.Master == b1.Master) && ((decide (a0.Seq = b1.Seq)) && (F21_crossroadsref13_Heads a0.Heads b1.Heads)))))))

/-- crossroads/crossroadslaw17.desc -/
def F12_crossroadslaw17_desc (d0 : TDesc) : TDesc :=
  d0

/-- crossroads/crossroadsref17.Same -/
def F13_crossroadsref17_Same (a0 : TSession) (b1 : TSession) : Bool :=
  ((decide (a0.Own = b1.Own)) && ((decide (a0.Peer = b1.Peer)) && ((decide (a0.Phase = b1.Phase)) && ((a0.Leads == b1.Leads) && ((decide (a0.Seq = b1.Seq)) && (let c43 := F21_crossroadsref13_Heads a0.Left b1.Left
   (c43 && (let c50 := F21_crossroadsref13_Heads a0.Got b1.Got
    (c50 && (F11_crossroadsref13_Same a0.Last b1.Last))))))))))

/-- crossroads/crossroadslaw17.plain -/
def F14_crossroadslaw17_plain (s0 : TSession) : TSession :=
  (let c19 := F12_crossroadslaw17_desc s0.Last
   (⟨s0.Own, s0.Peer, s0.Phase, s0.Leads, s0.Seq, s0.Left, s0.Got, c19⟩ : TSession))

/-- crossroads/crossroadsref17.page -/
def F29_crossroadsref17_page (s0 : TSession) : TSession × TDesc :=
  ((⟨s0.Own, s0.Peer, s0.Phase, s0.Leads, s0.Seq, (s0.Left.drop (min_ 10 (s0.Left.length : Int)).toNat), s0.Got, (⟨1500, 2, false, decide (min_ 10 (s0.Left.length : Int) < (s0.Left.length : Int)), s0.Leads, s0.Seq, (s0.Left.take (min_ 10 (s0.Left.length : Int)).toNat)⟩ : TDesc)⟩ : TSession), (⟨1500, 2, false, decide (min_ 10 (s0.Left.length : Int) < (s0.Left.length : Int)), s0.Leads, s0.Seq, (s0.Left.take (min_ 10 (s0.Left.length : Int)).toNat)⟩ : TDesc))

/-- crossroads/crossroadsref17.got -/
def F48_crossroadsref17_got (s0 : TSession) (d1 : TDesc) : TSession :=
  (⟨s0.Own, s0.Peer, s0.Phase, s0.Leads, s0.Seq, s0.Left, (s0.Got ++ d1.Heads), s0.Last⟩ : TSession)

/-- crossroads/crossroadsref17.lead -/
def F30_crossroadsref17_lead (s0 : TSession) (d1 : TDesc) : TSession × TDesc × Bool × Int :=
  (bif decide (d1.Seq = IntKind.u32.wrap (s0.Seq - 1)) then
    (s0, (⟨0, 0, false, false, false, 0, ([] : List THeader)⟩ : TDesc), false, 0)
  else
    (bif decide (d1.Seq = s0.Seq) then
      (bif decide (s0.Phase = 2) then
        (s0, (⟨0, 0, false, false, false, 0, ([] : List THeader)⟩ : TDesc), false, 0)
      else
        (let c34 := F48_crossroadsref17_got s0 d1
         (bif c34.Last.More then
           (match F29_crossroadsref17_page (⟨c34.Own, c34.Peer, c34.Phase, c34.Leads, IntKind.u32.wrap (c34.Seq + 1), c34.Left, c34.Got, c34.Last⟩ : TSession) with
            | (c53a, c53b) => (c53a, c53b, true, 0))
         else
           (bif d1.More then
             (match F29_crossroadsref17_page (⟨c34.Own, c34.Peer, c34.Phase, c34.Leads, IntKind.u32.wrap (c34.Seq + 1), c34.Left, c34.Got, c34.Last⟩ : TSession) with
              | (c53a, c53b) => (c53a, c53b, true, 0))
           else
             ((⟨c34.Own, c34.Peer, 2, c34.Leads, c34.Seq, c34.Left, c34.Got, c34.Last⟩ : TSession), (⟨0, 0, false, false, false, 0, ([] : List THeader)⟩ : TDesc), false, 0)))))
    else
      (s0, (⟨0, 0, false, false, false, 0, ([] : List THeader)⟩ : TDesc), false, 13)))

/-- crossroads/crossroadsref17.follow -/
def F31_crossroadsref17_follow (s0 : TSession) (d1 : TDesc) : TSession × TDesc × Bool × Int :=
  (bif decide (d1.Seq = s0.Seq) then
    (s0, s0.Last, true, 0)
  else
    (bif decide (d1.Seq = IntKind.u32.wrap (s0.Seq + 1)) then
      (bif decide (s0.Phase = 2) then
        (s0, (⟨0, 0, false, false, false, 0, ([] : List THeader)⟩ : TDesc), false, 13)
      else
        (let c33 := F48_crossroadsref17_got s0 d1
         (match F29_crossroadsref17_page (⟨c33.Own, c33.Peer, c33.Phase, c33.Leads, d1.Seq, c33.Left, c33.Got, c33.Last⟩ : TSession) with
          | (c39a, c39b) => (bif d1.More then
              (c39a, c39b, true, 0)
            else
              (bif c39b.More then
                (c39a, c39b, true, 0)
              else
                ((⟨c39a.Own, c39a.Peer, 2, c39a.Leads, c39a.Seq, c39a.Left, c39a.Got, c39a.Last⟩ : TSession), c39b, true, 0))))))
    else
      (s0, (⟨0, 0, false, false, false, 0, ([] : List THeader)⟩ : TDesc), false, 13)))

/-- crossroads/crossroadsref17.Hear -/
def F16_crossroadsref17_Hear (s0 : TSession) (d1 : TDesc) : TSession × TDesc × Bool × Int :=
  (bif decide (s0.Phase = 0) then
    (bif d1.Init then
      (bif d1.More then
        (bif d1.Master then
          (bif decide ((d1.Heads.length : Int) = 0) then
            (bif decide (s0.Own < s0.Peer) then
              (match F29_crossroadsref17_page (⟨s0.Own, s0.Peer, 1, s0.Leads, d1.Seq, s0.Left, s0.Got, s0.Last⟩ : TSession) with
               | (c44a, c44b) => (c44a, c44b, true, 0))
            else
              (s0, (⟨0, 0, false, false, false, 0, ([] : List THeader)⟩ : TDesc), false, 0))
          else
            (s0, (⟨0, 0, false, false, false, 0, ([] : List THeader)⟩ : TDesc), false, 0))
        else
          (s0, (⟨0, 0, false, false, false, 0, ([] : List THeader)⟩ : TDesc), false, 0))
      else
        (s0, (⟨0, 0, false, false, false, 0, ([] : List THeader)⟩ : TDesc), false, 0))
    else
      (bif d1.Master then
        (s0, (⟨0, 0, false, false, false, 0, ([] : List THeader)⟩ : TDesc), false, 0)
      else
        (bif decide (d1.Seq = s0.Seq) then
          (bif decide (s0.Peer < s0.Own) then
            F30_crossroadsref17_lead (⟨s0.Own, s0.Peer, 1, true, s0.Seq, s0.Left, s0.Got, s0.Last⟩ : TSession) d1
          else
            (s0, (⟨0, 0, false, false, false, 0, ([] : List THeader)⟩ : TDesc), false, 0))
        else
          (s0, (⟨0, 0, false, false, false, 0, ([] : List THeader)⟩ : TDesc), false, 0))))
  else
    (bif d1.Init then
      (s0, (⟨0, 0, false, false, false, 0, ([] : List THeader)⟩ : TDesc), false, 13)
    else
      (bif (d1.Master == s0.Leads) then
        (s0, (⟨0, 0, false, false, false, 0, ([] : List THeader)⟩ : TDesc), false, 13)
      else
        (bif s0.Leads then F30_crossroadsref17_lead s0 d1 else F31_crossroadsref17_follow s0 d1))))

/-- crossroads/exch.Again -/
def F17_exch_Again (s0 : TSession) : TDesc × Bool :=
  (bif decide (s0.Phase = 0) then
    (s0.Last, true)
  else
    (bif s0.Leads then
      (bif decide (s0.Phase = 1) then
        (s0.Last, true)
      else
        ((⟨0, 0, false, false, false, 0, ([] : List THeader)⟩ : TDesc), false))
    else
      ((⟨0, 0, false, false, false, 0, ([] : List THeader)⟩ : TDesc), false)))

/-- crossroads/crossroadsref17.Again -/
def F18_crossroadsref17_Again (s0 : TSession) : TDesc × Bool :=
  (bif decide (s0.Phase = 0) then
    (s0.Last, true)
  else
    (bif s0.Leads then
      (bif decide (s0.Phase = 1) then
        (s0.Last, true)
      else
        ((⟨0, 0, false, false, false, 0, ([] : List THeader)⟩ : TDesc), false))
    else
      ((⟨0, 0, false, false, false, 0, ([] : List THeader)⟩ : TDesc), false)))

def F3_crossroadslaw17_ExchPlays_l1  : (a5 : TSession) → (b7 : TSession) → (i9 : Nat) → List TDesc → Except Bool (TSession × TSession)
  | a5, b7, i9, [] => .ok (a5, b7)
  | a5, b7, i9, x9 :: l9 => (bif decide ((i9 : Int) < 120) then
        (bif decide (120 < (x9.Heads.length : Int)) then
          F3_crossroadslaw17_ExchPlays_l1 a5 b7 (i9 + 1) l9
        else
          (match F15_exch_Hear a5 x9 with
           | (c86a, c86b, c86c, c86d) => (let c97 := F12_crossroadslaw17_desc x9
              (match F16_crossroadsref17_Hear b7 c97 with
               | (c98a, c98b, c98c, c98d) => (match F17_exch_Again c86a with
                  | (c105a, c105b) => (match F18_crossroadsref17_Again c98a with
                     | (c110a, c110b) => (let c114 := F14_crossroadslaw17_plain c86a
                        (let c116 := F13_crossroadsref17_Same c114 c98a
                         (bif c116 then
                           (let c120 := F12_crossroadslaw17_desc c86b
                            (let c122 := F11_crossroadsref13_Same c120 c98b
                             (bif c122 then
                               (bif c86c == c98c then
                                 (bif decide (c86d = c98d) then
                                   (let c137 := F12_crossroadslaw17_desc c105a
                                    (let c139 := F11_crossroadsref13_Same c137 c110a
                                     (bif c139 then
                                       (bif c105b == c110b then
                                         (let c149 := F14_crossroadslaw17_plain a5
                                          (let c151 := F13_crossroadsref17_Same c149 b7
                                           (bif c151 then F3_crossroadslaw17_ExchPlays_l1 c86a c98a (i9 + 1) l9 else .error (false))))
                                       else
                                         .error (false))
                                     else
                                       .error (false))))
                                 else
                                   .error (false))
                               else
                                 .error (false))
                             else
                               .error (false))))
                         else
                           .error (false))))))))))
      else
        .ok (a5, b7))
/-- crossroads/crossroadslaw17.ExchPlays -/
def F3_crossroadslaw17_ExchPlays (s0 : TStart) (l1 : List TDesc) : Bool :=
  (bif decide (120 < (s0.Heads.length : Int)) then
    F8_crossroadslaw17_alive
  else
    (match F9_exch_Open s0.Own s0.Peer s0.Seq s0.Heads with
     | (c36a, c36b) => (match F10_crossroadsref17_Open s0.Own s0.Peer s0.Seq s0.Heads with
        | (c48a, c48b) => (let c52 := F12_crossroadslaw17_desc c36b
           (let c54 := F11_crossroadsref13_Same c52 c48b
            (c54 && (let c58 := F14_crossroadslaw17_plain c36a
             (let c60 := F13_crossroadsref17_Same c58 c48a
              (c60 && (match F3_crossroadslaw17_ExchPlays_l1 c36a c48a 0 l1 with
              | .error r => r
              | .ok (a5, b7) => F8_crossroadslaw17_alive))))))))))

/-- crossroads/crossroadsref11.two -/
def F66_crossroadsref11_two (n0 : Int) : (List Int) :=
  ([IntKind.u8.wrap (IntKind.i64.wrap (Int.tdiv n0 256)), IntKind.u8.wrap (Int.tmod n0 256)] : List Int)

/-- crossroads/crossroadsref01.Four -/
def F67_crossroadsref01_Four (n0 : Int) : (List Int) :=
  ([IntKind.u8.wrap (Int.fdiv n0 (2 ^ 24)), IntKind.u8.wrap (Int.fdiv n0 (2 ^ 16)), IntKind.u8.wrap (Int.fdiv n0 (2 ^ 8)), IntKind.u8.wrap n0] : List Int)

/-- crossroads/crossroadsref11.May -/
def F68_crossroadsref11_May (h0 : THeader) : Bool :=
  ((decide (0 ≤ h0.Age)) && ((decide (h0.Age ≤ 3600)) && ((decide (0 ≤ h0.Options)) && ((decide (h0.Options ≤ 255)) && ((decide (1 ≤ h0.Typef)) && ((decide (h0.Typef ≤ 7)) && (bif decide (h0.Typef = 6) then
    false
  else
    ((decide (0 ≤ h0.Sum)) && ((decide (h0.Sum ≤ 65535)) && ((decide (20 ≤ h0.Long)) && (decide (h0.Long ≤ 1400))))))))))))

/-- crossroads/crossroadsref11.MayAd -/
def F50_crossroadsref11_MayAd (a0 : TAd) : Bool :=
  (let c5 := F68_crossroadsref11_May a0.H
   (c5 && (decide (a0.H.Long = IntKind.i64.wrap (20 + (a0.B.length : Int))))))

def F69_crossroadsref02_Pair_l1  : (c4 : Int) → (d5 : Int) → List Int → Int × Int
  | c4, d5, [] => (c4, d5)
  | c4, d5, x6 :: l6 => F69_crossroadsref02_Pair_l1 (Int.tmod (IntKind.i64.wrap (c4 + (IntKind.i64.wrap x6))) 255) (Int.tmod (IntKind.i64.wrap (d5 + (Int.tmod (IntKind.i64.wrap (c4 + (IntKind.i64.wrap x6))) 255))) 255) l6
/-- crossroads/crossroadsref02.Pair -/
def F69_crossroadsref02_Pair (b0 : List Int) : Int × Int :=
  F69_crossroadsref02_Pair_l1 0 0 b0

/-- crossroads/crossroadsref02.Fits -/
def F51_crossroadsref02_Fits (b0 : List Int) : Bool :=
  (match F69_crossroadsref02_Pair b0 with
   | (c7a, c7b) => ((decide (c7a = 0)) && (decide (c7b = 0))))

def F80_crossroadsref01_Take_l1 (b0 : List Int) (many1 : Int) (fuel8 : Nat) (n7 : Int) (i8 : Int) : Int :=
  bif decide (i8 < many1) then
    match fuel8 with
    | 0 => n7
    | fuel8 + 1 => F80_crossroadsref01_Take_l1 b0 many1 fuel8 (IntKind.u32.wrap ((IntKind.u32.wrap (n7 * 256)) + (IntKind.u32.wrap (b0.getD i8.toNat default)))) (IntKind.i64.wrap (i8 + 1))
  else n7
/-- crossroads/crossroadsref01.Take -/
def F80_crossroadsref01_Take (b0 : List Int) (many1 : Int) : Int × (List Int) × Int :=
  (bif decide (many1 < 1) then
    (0, ([] : List Int), 1)
  else
    (bif decide (4 < many1) then
      (0, ([] : List Int), 1)
    else
      (bif decide ((b0.length : Int) < many1) then
        (0, ([] : List Int), 2)
      else
        (let n7 := F80_crossroadsref01_Take_l1 b0 many1 (fuelUp 0 many1) 0 0
         (n7, (b0.drop many1.toNat), 0)))))

def F71_crossroadsref12_MayRouter_l1  : List TLink → Except Bool Unit
  | [] => .ok ()
  | x3 :: l3 => (bif decide (x3.Kind < 1) then
        .error (false)
      else
        (bif decide (4 < x3.Kind) then
          .error (false)
        else
          (bif decide (x3.Cost < 0) then
            .error (false)
          else
            (bif decide (65535 < x3.Cost) then .error (false) else F71_crossroadsref12_MayRouter_l1 l3))))
/-- crossroads/crossroadsref12.MayRouter -/
def F71_crossroadsref12_MayRouter (x0 : TRouterBody) : Bool :=
  (bif decide (x0.Flags < 0) then
    false
  else
    (bif decide (31 < x0.Flags) then
      false
    else
      (bif decide (100 < (x0.Links.length : Int)) then
        false
      else
        (match F71_crossroadsref12_MayRouter_l1 x0.Links with
        | .error r => r
        | .ok _ => true))))

def F84_crossroadsref03_Mask_l1 (n0 : Int) (fuel0 : Nat) (m3 : Int) (i4 : Int) : Int × Int :=
  match fuel0 with
  | 0 => (m3, i4)
  | fuel0 + 1 => (bif decide (i4 < 32) then
        (bif decide (i4 < n0) then
          F84_crossroadsref03_Mask_l1 n0 fuel0 (IntKind.u32.wrap ((IntKind.u32.wrap (m3 * 2)) + 1)) (IntKind.i64.wrap (i4 + 1))
        else
          F84_crossroadsref03_Mask_l1 n0 fuel0 (IntKind.u32.wrap (m3 * 2)) (IntKind.i64.wrap (i4 + 1)))
      else
        (m3, i4))
/-- crossroads/crossroadsref03.Mask -/
def F84_crossroadsref03_Mask (n0 : Int) : Int :=
  (match F84_crossroadsref03_Mask_l1 n0 ((32 - (0 : Int)).toNat + 1) 0 0 with
  | (m3, i4) => m3)

def F81_crossroadsref03_Long_l1 (mask0 : Int) (fuel0 : Nat) (n4 : Int) : Except (Int × Int) Int :=
  match fuel0 with
  | 0 => .ok n4
  | fuel0 + 1 => (bif decide (n4 ≤ 32) then
        (let c10 := F84_crossroadsref03_Mask n4
         (bif decide (c10 = mask0) then .error ((n4, 0)) else F81_crossroadsref03_Long_l1 mask0 fuel0 (IntKind.i64.wrap (n4 + 1))))
      else
        .ok n4)
/-- crossroads/crossroadsref03.Long -/
def F81_crossroadsref03_Long (mask0 : Int) : Int × Int :=
  (match F81_crossroadsref03_Long_l1 mask0 ((33 - (0 : Int)).toNat + 1) 0 with
  | .error r => r
  | .ok n4 => (0, 3))

/-- crossroads/crossroadsref12.isMask -/
def F72_crossroadsref12_isMask (m0 : Int) : Bool :=
  (match F81_crossroadsref03_Long m0 with
   | (c7a, c7b) => decide (c7b = 0))

/-- crossroads/crossroadsref11.Less -/
def F37_crossroadsref11_Less (a0 : TKey) (b1 : TKey) : Bool :=
  (bif decide (a0.Typef = b1.Typef) then
    ((decide (a0.ID < b1.ID)) || ((decide (a0.ID = b1.ID)) && (decide (a0.Adv < b1.Adv))))
  else
    decide (a0.Typef < b1.Typef))

/-- crossroads/crossroadsref11.Key -/
def F38_crossroadsref11_Key (h0 : THeader) : TKey :=
  (⟨h0.Typef, h0.ID, h0.Adv⟩ : TKey)

def F23_crossroadsref13_Keys_l1 (b1 : List TKey) : (i5 : Nat) → List TKey → Except Bool Unit
  | i5, [] => .ok ()
  | i5, x5 :: l5 => (bif decide (x5.Typef = (b1.getD i5 default).Typef) && (decide (x5.ID = (b1.getD i5 default).ID) && (decide (x5.Adv = (b1.getD i5 default).Adv) && true)) then F23_crossroadsref13_Keys_l1 b1 (i5 + 1) l5 else .error (false))
/-- crossroads/crossroadsref13.Keys -/
def F23_crossroadsref13_Keys (a0 : List TKey) (b1 : List TKey) : Bool :=
  ((decide ((a0.length : Int) = (b1.length : Int))) && (match F23_crossroadsref13_Keys_l1 b1 0 a0 with
  | .error r => r
  | .ok _ => true))

/-- crossroads/lsa.Key -/
def F40_lsa_Key (h0 : THeader) : TKey :=
  (⟨h0.Typef, h0.ID, h0.Adv⟩ : TKey)

def F57_lsa_first_l1  : List Int → Except Int Unit
  | [] => .ok ()
  | x7 :: l7 => (bif decide (x7 = 0) then F57_lsa_first_l1 l7 else .error (x7))
/-- crossroads/lsa.first -/
def F57_lsa_first (l0 : List Int) : Int :=
  (match F57_lsa_first_l1 l0 with
  | .error r => r
  | .ok _ => 0)

/-- cmp.isNaN[int] -/
def F77_cmp_isNaN (x0 : Int) : Bool :=
  !decide (x0 = x0)

/-- cmp.Compare[int] -/
def F59_cmp_Compare (x0 : Int) (y1 : Int) : Int :=
  (let c8 := F77_cmp_isNaN x0
   (let c10 := F77_cmp_isNaN y1
    (bif c8 then
      (bif c10 then 0 else (-1))
    else
      (bif c10 then 1 else (bif decide (x0 < y1) then (-1) else (bif decide (y1 < x0) then 1 else 0))))))

/-- cmp.isNaN[uint32] -/
def F85_cmp_isNaN (x0 : Int) : Bool :=
  !decide (x0 = x0)

/-- cmp.Compare[uint32] -/
def F82_cmp_Compare (x0 : Int) (y1 : Int) : Int :=
  (let c8 := F85_cmp_isNaN x0
   (let c10 := F85_cmp_isNaN y1
    (bif c8 then
      (bif c10 then 0 else (-1))
    else
      (bif c10 then 1 else (bif decide (x0 < y1) then (-1) else (bif decide (y1 < x0) then 1 else 0))))))

/-- crossroads/lsa.Less -/
def F75_lsa_Less (a0 : TKey) (b1 : TKey) : Bool :=
  (let c9 := F59_cmp_Compare a0.Typef b1.Typef
   (let c14 := F82_cmp_Compare a0.ID b1.ID
    (let c19 := F82_cmp_Compare a0.Adv b1.Adv
     (let c21 := F57_lsa_first ([c9, c14, c19] : List Int)
      decide (c21 < 0)))))

/-- (crossroads/store.Store).at$1 -/
def F74_store_Store_at_1 (a0 : TAd) (k1 : TKey) : Int :=
  (let c8 := F40_lsa_Key a0.H
   (let c12 := F75_lsa_Less c8 k1
    (bif c12 then
      (-1)
    else
      (let c16 := F75_lsa_Less k1 c8
       (bif c16 then 1 else 0)))))

/-- cmp.isNaN[int32] -/
def F76_cmp_isNaN (x0 : Int) : Bool :=
  !decide (x0 = x0)

/-- cmp.Compare[int32] -/
def F58_cmp_Compare (x0 : Int) (y1 : Int) : Int :=
  (let c8 := F76_cmp_isNaN x0
   (let c10 := F76_cmp_isNaN y1
    (bif c8 then
      (bif c10 then 0 else (-1))
    else
      (bif c10 then 1 else (bif decide (x0 < y1) then (-1) else (bif decide (y1 < x0) then 1 else 0))))))

/-- crossroads/lsa.old -/
def F60_lsa_old (h0 : THeader) : Int :=
  (bif decide (h0.Age = 3600) then 1 else 0)

/-- crossroads/lsa.isIn -/
def F78_lsa_isIn (n0 : Int) (low1 : Int) (high2 : Int) : Bool :=
  ((decide (low1 ≤ n0)) && (decide (n0 ≤ high2)))

/-- crossroads/lsa.younger -/
def F61_lsa_younger (a0 : THeader) (b1 : THeader) : Int :=
  (let c10 := F78_lsa_isIn (IntKind.i64.wrap (a0.Age - b1.Age)) (-900) 900
   (bif c10 then 0 else F59_cmp_Compare b1.Age a0.Age))

/-- crossroads/lsa.Compare -/
def F41_lsa_Compare (a0 : THeader) (b1 : THeader) : Int :=
  (let c11 := F58_cmp_Compare (IntKind.i32.wrap a0.Seq) (IntKind.i32.wrap b1.Seq)
   (let c16 := F59_cmp_Compare a0.Sum b1.Sum
    (let c18 := F60_lsa_old a0
     (let c20 := F60_lsa_old b1
      (let c24 := F61_lsa_younger a0 b1
       F57_lsa_first ([c11, c16, IntKind.i64.wrap (c18 - c20), c24] : List Int))))))

def F42_crossroadsref14_Find_l1 (k1 : TKey) : List TAd → Except (TAd × Bool) Unit
  | [] => .ok ()
  | x6 :: l6 => (let c20 := F38_crossroadsref11_Key x6.H
       (bif (decide (c20.Typef = k1.Typef) && (decide (c20.ID = k1.ID) && (decide (c20.Adv = k1.Adv) && true))) then .error ((x6, true)) else F42_crossroadsref14_Find_l1 k1 l6))
/-- crossroads/crossroadsref14.Find -/
def F42_crossroadsref14_Find (s0 : TStore) (k1 : TKey) : TAd × Bool :=
  (match F42_crossroadsref14_Find_l1 k1 s0.L with
  | .error r => r
  | .ok _ => ((⟨(⟨0, 0, 0, 0, 0, 0, 0, 0⟩ : THeader), ([] : List Int)⟩ : TAd), false))

/-- crossroads/crossroadsref11.more -/
def F62_crossroadsref11_more (is0 : Bool) : Int :=
  (bif is0 then 1 else (-1))

/-- crossroads/crossroadsref11.Compare -/
def F43_crossroadsref11_Compare (a0 : THeader) (b1 : THeader) : Int :=
  (bif decide (IntKind.i32.wrap a0.Seq = IntKind.i32.wrap b1.Seq) then
    (bif decide (a0.Sum = b1.Sum) then
      (bif (decide (a0.Age = 3600)) == (decide (b1.Age = 3600)) then
        (bif decide (IntKind.i64.wrap (b1.Age + 900) < a0.Age) then
          F62_crossroadsref11_more (decide (a0.Age < b1.Age))
        else
          (bif decide (IntKind.i64.wrap (a0.Age + 900) < b1.Age) then F62_crossroadsref11_more (decide (a0.Age < b1.Age)) else 0))
      else
        F62_crossroadsref11_more (decide (a0.Age = 3600)))
    else
      F62_crossroadsref11_more (decide (b1.Sum < a0.Sum)))
  else
    F62_crossroadsref11_more (decide (IntKind.i32.wrap b1.Seq < IntKind.i32.wrap a0.Seq)))

def F25_crossroadsref17_Wants_l1 (st0 : TStore) : (out5 : List TKey) → List THeader → (List TKey)
  | out5, [] => out5
  | out5, x6 :: l6 => (let c22 := F38_crossroadsref11_Key x6
       (match F42_crossroadsref14_Find st0 c22 with
        | (c23a, c23b) => (bif c23b then
            (let c35 := F43_crossroadsref11_Compare x6 c23a.H
             (bif decide (0 < c35) then
               F25_crossroadsref17_Wants_l1 st0 (out5 ++ ([c22] : List TKey)) l6
             else
               F25_crossroadsref17_Wants_l1 st0 out5 l6))
          else
            F25_crossroadsref17_Wants_l1 st0 (out5 ++ ([c22] : List TKey)) l6)))
/-- crossroads/crossroadsref17.Wants -/
def F25_crossroadsref17_Wants (st0 : TStore) (l1 : List THeader) : (List TKey) :=
  F25_crossroadsref17_Wants_l1 st0 ([] : List TKey) l1

def F26_store_Heads_l1  : (out3 : List THeader) → List TAd → (List THeader)
  | out3, [] => out3
  | out3, x9 :: l9 => F26_store_Heads_l1 (out3 ++ ([x9.H] : List THeader)) l9
/-- crossroads/store.Heads -/
def F26_store_Heads (s0 : TStore) : (List THeader) :=
  F26_store_Heads_l1 ([] : List THeader) s0.L

end Go.Proofs.Ytbmdpedhobkeeaa.Abs

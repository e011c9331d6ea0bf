/- How the values of the Lean functions lie in memory (printed by this work's own program gen.py). -/
import Derived.Test.YtbmdpedhobkeeaaPu
import Derived.Test.YtbmdpedhobkeeaaCode
import Derived.Test.YtbmdpedhobkeeaaS1
import Derived.Test.YtbmdpedhobkeeaaA27
import Derived.KernelRfl
namespace Go.Proofs.Ytbmdpedhobkeeaa.Abs
open Go

def THeader.c (x : THeader) : List PVal := [.int .i64 x.Age, .int .i64 x.Options, .int .i64 x.Typef, .int .u32 x.ID, .int .u32 x.Adv, .int .u32 x.Seq, .int .i64 x.Sum, .int .i64 x.Long]
def TStart.c (x : TStart) : List PVal := [.int .u32 x.Own, .int .u32 x.Peer, .int .u32 x.Seq, .ro 8 (x.Heads.map THeader.c)]
def TDesc.c (x : TDesc) : List PVal := [.int .i64 x.MTU, .int .i64 x.Options, .bool x.Init, .bool x.More, .bool x.Master, .int .u32 x.Seq, .ro 8 (x.Heads.map THeader.c)]
def TSession.c (x : TSession) : List PVal := [.int .u32 x.Own, .int .u32 x.Peer, .int .i64 x.Phase, .bool x.Leads, .int .u32 x.Seq, .ro 8 (x.Left.map THeader.c), .ro 8 (x.Got.map THeader.c), .int .i64 x.Last.MTU, .int .i64 x.Last.Options, .bool x.Last.Init, .bool x.Last.More, .bool x.Last.Master, .int .u32 x.Last.Seq, .ro 8 (x.Last.Heads.map THeader.c)]
def TTalk.c (x : TTalk) : List PVal := [.int .u32 x.Session.Own, .int .u32 x.Session.Peer, .int .i64 x.Session.Phase, .bool x.Session.Leads, .int .u32 x.Session.Seq, .ro 8 (x.Session.Left.map THeader.c), .ro 8 (x.Session.Got.map THeader.c), .int .i64 x.Session.Last.MTU, .int .i64 x.Session.Last.Options, .bool x.Session.Last.Init, .bool x.Session.Last.More, .bool x.Session.Last.Master, .int .u32 x.Session.Last.Seq, .ro 8 (x.Session.Last.Heads.map THeader.c), .int .i64 x.out.MTU, .int .i64 x.out.Options, .bool x.out.Init, .bool x.out.More, .bool x.out.Master, .int .u32 x.out.Seq, .ro 8 (x.out.Heads.map THeader.c), .bool x.sent, .int .i64 x.e]
def TEnd.c (x : TEnd) : List PVal := [.int .u32 x.s.Own, .int .u32 x.s.Peer, .int .i64 x.s.Phase, .bool x.s.Leads, .int .u32 x.s.Seq, .ro 8 (x.s.Left.map THeader.c), .ro 8 (x.s.Got.map THeader.c), .int .i64 x.s.Last.MTU, .int .i64 x.s.Last.Options, .bool x.s.Last.Init, .bool x.s.Last.More, .bool x.s.Last.Master, .int .u32 x.s.Last.Seq, .ro 8 (x.s.Last.Heads.map THeader.c), .ro 7 (x.waits.map TDesc.c)]
/-- What a known Bool makes of what it stands in. -/
theorem bb : (∀ {α : Type} (a b : α), cond true a b = a) ∧ (∀ {α : Type} (a b : α), cond false a b = b) ∧ (∀ b : Bool, (true && b) = b) ∧ (∀ b : Bool, (false && b) = false) ∧ (∀ b : Bool, (true || b) = true) ∧ (∀ b : Bool, (false || b) = b) ∧ ((!true) = false) ∧ ((!false) = true) :=
  ⟨fun _ _ => rfl, fun _ _ => rfl, Bool.true_and, Bool.false_and, Bool.true_or, Bool.false_or, rfl, rfl⟩

end Go.Proofs.Ytbmdpedhobkeeaa.Abs

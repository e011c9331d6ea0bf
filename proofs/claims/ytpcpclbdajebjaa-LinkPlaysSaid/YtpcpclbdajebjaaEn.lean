/- How the values of the Lean functions lie in memory (printed by this work's own program gen.py). -/
import Derived.Test.YtpcpclbdajebjaaPu
import Derived.Test.YtpcpclbdajebjaaCode
import Derived.Test.YtpcpclbdajebjaaS1
import Derived.Test.YtpcpclbdajebjaaA27
import Derived.KernelRfl
namespace Go.Proofs.Ytpcpclbdajebjaa.Abs
open Go

def TEntry.c (x : TEntry) : List PVal := [.int .i64 x.Life, .int .u64 x.ID, .int .u32 x.Seq, .int .i64 x.Sum]
def TThing.c (x : TThing) : List PVal := [.int .i64 x.Kind, .ro 1 (x.B.map c_u8)]
def TLsp.c (x : TLsp) : List PVal := [.int .i64 x.Level, .int .i64 x.Life, .int .u64 x.ID, .int .u32 x.Seq, .int .i64 x.Sum, .int .i64 x.Bits, .ro 2 (x.Things.map TThing.c)]
def TPage.c (x : TPage) : List PVal := [.ro 1 (x.b.map c_u8)]
def TBase.c (x : TBase) : List PVal := [.int .i64 x.Level, .int .i64 x.Max, .ro 7 (x.L.map TLsp.c), .bool x.Over]
def TList.c (x : TList) : List PVal := [.int .i64 x.Level, .bool x.Whole, .int .u64 x.Source, .int .u64 x.Low, .int .u64 x.High, .ro 4 (x.L.map TEntry.c)]
def TS.c (x : TS) : List PVal := [.int .i64 x.e0, .int .i64 x.e1]
def TAct.c (x : TAct) : List PVal := [.bool x.Tick, .int .i64 x.By, .int .i64 x.X.Level, .int .i64 x.X.Life, .int .u64 x.X.ID, .int .u32 x.X.Seq, .int .i64 x.X.Sum, .int .i64 x.X.Bits, .ro 2 (x.X.Things.map TThing.c)]
/-- What a known Bool makes of what it stands in. -/
theorem bb : (∀ {α : Type} (a b : α), cond true a b = a) ∧ (∀ {α : Type} (a b : α), cond false a b = b) ∧ (∀ b : Bool, (true && b) = b) ∧ (∀ b : Bool, (false && b) = false) ∧ (∀ b : Bool, (true || b) = true) ∧ (∀ b : Bool, (false || b) = b) ∧ ((!true) = false) ∧ ((!false) = true) :=
  ⟨fun _ _ => rfl, fun _ _ => rfl, Bool.true_and, Bool.false_and, Bool.true_or, Bool.false_or, rfl, rfl⟩
theorem ov50 : OvlFn Try.prog 65 7 :=
  ⟨Try.f65, 36, 4, 34, Try.func65, by kernel_rfl, by kernel_rfl, by kernel_rfl, by kernel_rfl, by kernel_rfl, by kernel_rfl⟩

end Go.Proofs.Ytpcpclbdajebjaa.Abs

/- How the values of the Lean functions lie in memory (printed by this work's own program gen.py). -/
import Derived.Test.YtmfggjebbhdejaaPu
import Derived.Test.YtmfggjebbhdejaaCode
import Derived.Test.YtmfggjebbhdejaaS1
import Derived.KernelRfl
namespace Go.Proofs.Ytmfggjebbhdejaa.Abs
open Go

def TPrefix.c (x : TPrefix) : List PVal := [.int .u32 x.A, .int .i64 x.N]
def THop.c (x : THop) : List PVal := [.int .i64 x.Iface, .int .u32 x.Gate]
def TCand.c (x : TCand) : List PVal := [.int .u32 x.P.A, .int .i64 x.P.N, .int .i64 x.Proto, .int .i64 x.Inst, .int .i64 x.Dist, .int .i64 x.Metric, .int .u32 x.Tag, .bool x.Leaked, .int .i64 x.From, .ro 2 (x.Hops.map THop.c)]
def TTable.c (x : TTable) : List PVal := [.ro 10 (x.L.map TCand.c)]
def TS.c (x : TS) : List PVal := [.int .i64 x.e0, .int .i64 x.e1, .int .i64 x.e2, .int .i64 x.e3, .int .i64 x.e4, .int .i64 x.e5]
/-- What a known Bool makes of what it stands in. -/
theorem bb : (∀ {α : Type} (a b : α), cond true a b = a) ∧ (∀ {α : Type} (a b : α), cond false a b = b) ∧ (∀ b : Bool, (true && b) = b) ∧ (∀ b : Bool, (false && b) = false) ∧ (∀ b : Bool, (true || b) = true) ∧ (∀ b : Bool, (false || b) = b) ∧ ((!true) = false) ∧ ((!false) = true) :=
  ⟨fun _ _ => rfl, fun _ _ => rfl, Bool.true_and, Bool.false_and, Bool.true_or, Bool.false_or, rfl, rfl⟩
theorem ov45 : OvlFn Try.prog 54 10 :=
  ⟨Try.f54, 22, 4, 28, Try.func54, by kernel_rfl, by kernel_rfl, by kernel_rfl, by kernel_rfl, by kernel_rfl, by kernel_rfl⟩

end Go.Proofs.Ytmfggjebbhdejaa.Abs

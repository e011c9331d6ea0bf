/- How the values of the Lean functions lie in memory (printed by this work's own program gen.py). -/
import Derived.Test.YtakallenldpkiaaPu
import Derived.Test.YtakallenldpkiaaCode
import Derived.Test.YtakallenldpkiaaA22
import Derived.Test.YtakallenldpkiaaA27
import Derived.KernelRfl
namespace Go.Proofs.Ytakallenldpkiaa.Abs
open Go

def TPrefix.c (x : TPrefix) : List PVal := [.int .u32 x.A, .int .i64 x.N]
def TAct.c (x : TAct) : List PVal := [.bool x.Drop, .int .u32 x.P.A, .int .i64 x.P.N, .int .i64 x.V, .int .u32 x.A]
def TS.c (x : TS) : List PVal := [.int .i64 x.e0, .int .i64 x.e1]
def TNode.c (x : TNode) : List PVal := [.int .u32 x.p.A, .int .i64 x.p.N, .int .i64 x.v, .bool x.isf, .int .i64 x.kids.e0, .int .i64 x.kids.e1]
def TTrie.c (x : TTrie) : List PVal := [.ro 6 (x.l.map TNode.c), .ro 1 (x.free.map c_i64), .int .i64 x.root, .int .i64 x.n]
def TEntry.c (x : TEntry) : List PVal := [.int .u32 x.P.A, .int .i64 x.P.N, .int .i64 x.V]
/-- What a known Bool makes of what it stands in. -/
theorem bb : (∀ {α : Type} (a b : α), cond true a b = a) ∧ (∀ {α : Type} (a b : α), cond false a b = b) ∧ (∀ b : Bool, (true && b) = b) ∧ (∀ b : Bool, (false && b) = false) ∧ (∀ b : Bool, (true || b) = true) ∧ (∀ b : Bool, (false || b) = b) ∧ ((!true) = false) ∧ ((!false) = true) :=
  ⟨fun _ _ => rfl, fun _ _ => rfl, Bool.true_and, Bool.false_and, Bool.true_or, Bool.false_or, rfl, rfl⟩

end Go.Proofs.Ytakallenldpkiaa.Abs
